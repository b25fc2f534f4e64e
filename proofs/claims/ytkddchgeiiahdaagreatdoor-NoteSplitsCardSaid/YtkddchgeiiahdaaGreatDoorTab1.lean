/-
The code of what the laws reach, as a table of the small language. Printed by wip/gen.
-/
import Derived.Test.YtkddchgeiiahdaaGreatDoorTab0
namespace Go.D.Tab

/-! quire/hyph.exception -/
@[simp] def f158r0 : List ROper := [
  ⟨some 2, .mv (.c (.str [])), none⟩,
  ⟨some 3, .mv (.c (.list 0 0 .no false [])), none⟩,
  ⟨some 4, .mv (.c (.bool false)), none⟩]
@[simp] def f158r1 : List ROper := [
  ⟨some 5, .mv (.c (.list 0 0 .no false [])), none⟩]
@[simp] def f158r2 : List ROper := [
  ⟨some 6, .mv (.c (.list 0 0 .no false [])), none⟩]
@[simp] def f158r3 : List ROper := [
  ⟨some 9, .mv (.t 0), none⟩,
  ⟨some 10, .s2b (.t 9), none⟩,
  ⟨some 11, .len .slice (.t 10), none⟩,
  ⟨some 12, .mv (.c (.int .i64 (.ofNat 0))), none⟩]
@[simp] def f158r4 : List ROper := [
  ⟨some 13, .bin .lss (.t 12) (.t 11), none⟩]
@[simp] def f158r5 : List ROper := [
  ⟨some 14, .mv (.t 12), none⟩,
  ⟨some 15, .iaddr 1 (.t 10) (.t 12), none⟩,
  ⟨some 16, .load 1 false (.t 15), none⟩,
  ⟨some 7, .mv (.t 14), none⟩,
  ⟨some 8, .mv (.t 16), none⟩]
@[simp] def f158r6 : List ROper := [
  ⟨some 18, .mv (.t 8), none⟩,
  ⟨some 19, .call 161 [(.t 18)], none⟩,
  ⟨some 17, .mv (.t 19), none⟩]
@[simp] def f158r7 : List ROper := [
  ⟨some 20, .mv (.t 5), none⟩,
  ⟨some 21, .mv (.t 8), none⟩,
  ⟨some 22, .lit 1 false [(.int .u8 (.ofNat 0))] 1 [(0, (.t 21))], none⟩,
  ⟨some 23, .append 1 false 1 (.t 20) (.t 22), none⟩,
  ⟨some 5, .mv (.t 23), none⟩]
@[simp] def f158r8 : List ROper := [
  ⟨some 25, .mv (.t 8), none⟩,
  ⟨some 26, .bin .eql (.t 25) (.c (.int .u8 (.ofNat 45))), none⟩,
  ⟨some 27, .mv (.t 26), none⟩,
  ⟨some 28, .mv (.t 7), some (27, true)⟩,
  ⟨some 29, .bin .gtr (.t 28) (.c (.int .i64 (.ofNat 0))), some (27, true)⟩,
  ⟨some 30, .pick (.t 27) (.t 29) (.c (.bool false)), none⟩,
  ⟨some 31, .mv (.t 30), none⟩,
  ⟨some 32, .mv (.t 7), some (31, true)⟩,
  ⟨some 33, .mv (.t 0), some (31, true)⟩,
  ⟨some 34, .len .str (.t 33), some (31, true)⟩,
  ⟨some 35, .bin .sub (.t 34) (.c (.int .i64 (.ofNat 1))), some (31, true)⟩,
  ⟨some 36, .bin .lss (.t 32) (.t 35), some (31, true)⟩,
  ⟨some 37, .pick (.t 31) (.t 36) (.c (.bool false)), none⟩,
  ⟨some 38, .mv (.t 37), none⟩,
  ⟨some 39, .mv (.t 0), some (38, true)⟩,
  ⟨some 40, .mv (.t 7), some (38, true)⟩,
  ⟨some 41, .bin .sub (.t 40) (.c (.int .i64 (.ofNat 1))), some (38, true)⟩,
  ⟨some 42, .index (.t 39) (.t 41), some (38, true)⟩,
  ⟨some 43, .bin .neq (.t 42) (.c (.int .u8 (.ofNat 45))), some (38, true)⟩,
  ⟨some 44, .pick (.t 38) (.t 43) (.c (.bool false)), none⟩,
  ⟨some 24, .mv (.t 44), none⟩]
@[simp] def f158r9 : List ROper := [
  ⟨some 45, .mv (.t 6), none⟩,
  ⟨some 46, .mv (.t 5), none⟩,
  ⟨some 47, .len .slice (.t 46), none⟩,
  ⟨some 48, .lit 1 false [(.int .i64 (.ofNat 0))] 1 [(0, (.t 47))], none⟩,
  ⟨some 49, .append 1 false 8 (.t 45) (.t 48), none⟩,
  ⟨some 6, .mv (.t 49), none⟩]
@[simp] def f158r10 : List ROper := [
  ⟨some 2, .mv (.c (.str [])), none⟩,
  ⟨some 3, .mv (.c (.list 0 0 .no false [])), none⟩,
  ⟨some 4, .mv (.c (.bool false)), none⟩]
@[simp] def f158r11 : List ROper := [
  ⟨some 50, .bin .add (.t 12) (.c (.int .i64 (.ofNat 1))), none⟩,
  ⟨some 12, .mv (.t 50), none⟩]
def f158B0 : RC := (.seq (.region f158r4 [0, 5, 6, 10, 11, 12, 13]) (.seq (.cond (.t 13) .skip (.exit 0)) (.seq (.block 1 (.seq (.region f158r5 [0, 5, 6, 7, 8, 10, 11, 12]) (.block 2 (.seq (.region f158r6 [0, 5, 6, 7, 8, 10, 11, 12, 17]) (.cond (.t 17) (.region f158r7 [0, 5, 6, 10, 11, 12]) (.seq (.region f158r8 [0, 5, 6, 10, 11, 12, 24]) (.cond (.t 24) (.region f158r9 [0, 5, 6, 10, 11, 12]) (.seq (.region f158r10 [2, 3, 4]) .ret)))))))) (.region f158r11 [0, 5, 6, 10, 11, 12]))))
def f158L0 : RC := .loop [0, 5, 6, 10, 11, 12] f158B0
@[simp] def f158r12 : List ROper := [
  ⟨some 51, .mv (.t 5), none⟩,
  ⟨some 52, .b2s (.t 51), none⟩,
  ⟨some 53, .mv (.t 6), none⟩,
  ⟨some 54, .mv (.t 5), none⟩,
  ⟨some 55, .len .slice (.t 54), none⟩,
  ⟨some 56, .bin .geq (.t 55) (.c (.int .i64 (.ofNat 2))), none⟩,
  ⟨some 57, .mv (.t 56), none⟩,
  ⟨some 58, .mv (.t 5), some (57, true)⟩,
  ⟨some 59, .len .slice (.t 58), some (57, true)⟩,
  ⟨some 60, .bin .leq (.t 59) (.c (.int .i64 (.ofNat 64))), some (57, true)⟩,
  ⟨some 61, .pick (.t 57) (.t 60) (.c (.bool false)), none⟩,
  ⟨some 2, .mv (.t 52), none⟩,
  ⟨some 3, .mv (.t 53), none⟩,
  ⟨some 4, .mv (.t 61), none⟩]
def f158 : RFunc := ⟨[.t 2, .t 3, .t 4], (.seq (.region f158r0 [0]) (.seq (.region f158r1 [0, 5]) (.seq (.region f158r2 [0, 5, 6]) (.seq (.seq (.region f158r3 [0, 5, 6, 10, 11, 12]) (.block 0 f158L0)) (.seq (.region f158r12 [2, 3, 4]) .ret))))), true⟩

/-! strings.FieldsFunc -/
@[simp] def f159r0 : List ROper := [
  ⟨some 4, .mv (.c (.list 0 0 .no false [])), none⟩]
@[simp] def f159r1 : List ROper := [
  ⟨some 12, .mklist 2 16 (.c (.int .i64 (.ofNat 0))) (.c (.int .i64 (.ofNat 32))), none⟩,
  ⟨some 5, .mv (.t 12), none⟩]
@[simp] def f159r2 : List ROper := [
  ⟨some 6, .mv (.c (.int .i64 (.negSucc 0))), none⟩]
@[simp] def f159r3 : List ROper := [
  ⟨some 13, .mv (.t 0), none⟩,
  ⟨some 14, .fail, none⟩]
@[simp] def f159r4 : List ROper := [
  ⟨some 15, .fail, none⟩,
  ⟨some 16, .extract (.t 15) 0, none⟩]
@[simp] def f159r5 : List ROper := [
  ⟨some 17, .extract (.t 15) 1, none⟩,
  ⟨some 18, .extract (.t 15) 2, none⟩,
  ⟨some 7, .mv (.t 17), none⟩,
  ⟨some 8, .mv (.t 18), none⟩]
@[simp] def f159r6 : List ROper := [
  ⟨some 19, .mv (.t 1), none⟩,
  ⟨some 20, .mv (.t 8), none⟩,
  ⟨some 21, .callv (.t 19) [(.t 20)], none⟩]
@[simp] def f159r7 : List ROper := [
  ⟨some 22, .mv (.t 6), none⟩,
  ⟨some 23, .bin .geq (.t 22) (.c (.int .i64 (.ofNat 0))), none⟩]
@[simp] def f159r8 : List ROper := [
  ⟨some 24, .mv (.t 5), none⟩,
  ⟨some 25, .mv (.t 6), none⟩,
  ⟨some 26, .mv (.t 7), none⟩,
  ⟨some 27, .build [(.int .i64 (.ofNat 0)), (.int .i64 (.ofNat 0))] [(0, 1, (.t 25)), (1, 1, (.t 26))], none⟩,
  ⟨some 28, .lit 2 true [(.int .i64 (.ofNat 0)), (.int .i64 (.ofNat 0))] 1 [(0, (.t 27))], none⟩,
  ⟨some 29, .append 2 true 16 (.t 24) (.t 28), none⟩,
  ⟨some 5, .mv (.t 29), none⟩]
@[simp] def f159r9 : List ROper := [
  ⟨some 30, .mv (.t 6), none⟩,
  ⟨some 31, .un .xor (.t 30), none⟩,
  ⟨some 6, .mv (.t 31), none⟩]
@[simp] def f159r10 : List ROper := [
  ⟨some 32, .mv (.t 6), none⟩,
  ⟨some 33, .bin .lss (.t 32) (.c (.int .i64 (.ofNat 0))), none⟩]
@[simp] def f159r11 : List ROper := [
  ⟨some 34, .mv (.t 7), none⟩,
  ⟨some 6, .mv (.t 34), none⟩]
def f159B0 : RC := (.seq (.region f159r4 [0, 1, 5, 6, 15, 16]) (.seq (.cond (.t 16) .skip (.exit 0)) (.block 1 (.seq (.region f159r5 [0, 1, 5, 6, 7, 8]) (.seq (.region f159r6 [0, 1, 5, 6, 7, 21]) (.cond (.t 21) (.seq (.region f159r7 [0, 1, 5, 6, 7, 23]) (.cond (.t 23) (.seq (.region f159r8 [0, 1, 5, 6]) (.region f159r9 [0, 1, 5, 6])) .skip)) (.seq (.region f159r10 [0, 1, 5, 6, 7, 33]) (.cond (.t 33) (.region f159r11 [0, 1, 5, 6]) .skip))))))))
def f159L0 : RC := .loop [0, 1, 5, 6] f159B0
@[simp] def f159r12 : List ROper := [
  ⟨some 35, .mv (.t 6), none⟩,
  ⟨some 36, .bin .geq (.t 35) (.c (.int .i64 (.ofNat 0))), none⟩]
@[simp] def f159r13 : List ROper := [
  ⟨some 37, .mv (.t 5), none⟩,
  ⟨some 38, .mv (.t 6), none⟩,
  ⟨some 39, .mv (.t 0), none⟩,
  ⟨some 40, .len .str (.t 39), none⟩,
  ⟨some 41, .build [(.int .i64 (.ofNat 0)), (.int .i64 (.ofNat 0))] [(0, 1, (.t 38)), (1, 1, (.t 40))], none⟩,
  ⟨some 42, .lit 2 true [(.int .i64 (.ofNat 0)), (.int .i64 (.ofNat 0))] 1 [(0, (.t 41))], none⟩,
  ⟨some 43, .append 2 true 16 (.t 37) (.t 42), none⟩,
  ⟨some 5, .mv (.t 43), none⟩]
@[simp] def f159r14 : List ROper := [
  ⟨some 44, .mv (.t 5), none⟩,
  ⟨some 45, .len .slice (.t 44), none⟩,
  ⟨some 46, .mkslice 1 false 16 [(.str [])] (.t 45) (.t 45), none⟩,
  ⟨some 9, .mv (.t 46), none⟩]
@[simp] def f159r15 : List ROper := [
  ⟨some 47, .mv (.t 5), none⟩,
  ⟨some 48, .len .slice (.t 47), none⟩,
  ⟨some 49, .mv (.c (.int .i64 (.ofNat 0))), none⟩]
@[simp] def f159r16 : List ROper := [
  ⟨some 50, .bin .lss (.t 49) (.t 48), none⟩]
@[simp] def f159r17 : List ROper := [
  ⟨some 51, .mv (.t 49), none⟩,
  ⟨some 52, .iaddr 2 (.t 47) (.t 49), none⟩,
  ⟨some 53, .load 2 true (.t 52), none⟩,
  ⟨some 11, .alloc [(.int .i64 (.ofNat 0)), (.int .i64 (.ofNat 0))], none⟩,
  ⟨some 10, .mv (.t 51), none⟩,
  ⟨none, .store 2 (.t 11) (.t 53), none⟩]
@[simp] def f159r18 : List ROper := [
  ⟨some 54, .mv (.t 9), none⟩,
  ⟨some 55, .mv (.t 10), none⟩,
  ⟨some 56, .mv (.t 0), none⟩,
  ⟨some 57, .faddr 0 (.t 11), none⟩,
  ⟨some 58, .load 1 false (.t 57), none⟩,
  ⟨some 59, .faddr 1 (.t 11), none⟩,
  ⟨some 60, .load 1 false (.t 59), none⟩,
  ⟨some 61, .slice true 1 (.t 56) (some (.t 58)) (some (.t 60)) none, none⟩,
  ⟨some 62, .iaddr 1 (.t 54) (.t 55), none⟩,
  ⟨none, .store 1 (.t 62) (.t 61), none⟩]
@[simp] def f159r19 : List ROper := [
  ⟨some 63, .bin .add (.t 49) (.c (.int .i64 (.ofNat 1))), none⟩,
  ⟨some 49, .mv (.t 63), none⟩]
def f159B1 : RC := (.seq (.region f159r16 [0, 9, 47, 48, 49, 50]) (.seq (.cond (.t 50) .skip (.exit 2)) (.seq (.block 3 (.seq (.region f159r17 [0, 9, 10, 11, 47, 48, 49]) (.region f159r18 [0, 9, 47, 48, 49]))) (.region f159r19 [0, 9, 47, 48, 49]))))
def f159L1 : RC := .loop [0, 9, 47, 48, 49] f159B1
@[simp] def f159r20 : List ROper := [
  ⟨some 64, .mv (.t 9), none⟩,
  ⟨some 4, .mv (.t 64), none⟩]
def f159 : RFunc := ⟨[.t 4], (.seq (.region f159r0 [0, 1]) (.seq (.region f159r1 [0, 1, 5]) (.seq (.region f159r2 [0, 1, 5, 6]) (.seq (.seq (.region f159r3 [0, 1, 5, 6]) (.block 0 f159L0)) (.seq (.seq (.region f159r12 [0, 5, 6, 36]) (.cond (.t 36) (.region f159r13 [0, 5]) .skip)) (.seq (.region f159r14 [0, 5, 9]) (.seq (.seq (.region f159r15 [0, 9, 47, 48, 49]) (.block 2 f159L1)) (.seq (.region f159r20 [4]) .ret)))))))), false⟩

/-! unicode.IsSpace -/
@[simp] def f160r0 : List ROper := [
  ⟨some 2, .mv (.c (.bool false)), none⟩]
@[simp] def f160r1 : List ROper := [
  ⟨some 3, .mv (.t 0), none⟩,
  ⟨some 4, .i2i .u32 (.t 3), none⟩,
  ⟨some 5, .bin .leq (.t 4) (.c (.int .u32 (.ofNat 255))), none⟩]
@[simp] def f160r2 : List ROper := [
  ⟨some 6, .mv (.t 0), none⟩]
@[simp] def f160r3 : List ROper := [
  ⟨some 8, .bin .eql (.t 6) (.c (.int .i32 (.ofNat 9))), none⟩,
  ⟨some 7, .mv (.t 8), none⟩]
@[simp] def f160r4 : List ROper := [
  ⟨some 9, .bin .eql (.t 6) (.c (.int .i32 (.ofNat 10))), none⟩,
  ⟨some 7, .mv (.t 9), none⟩]
@[simp] def f160r5 : List ROper := [
  ⟨some 10, .bin .eql (.t 6) (.c (.int .i32 (.ofNat 11))), none⟩,
  ⟨some 7, .mv (.t 10), none⟩]
@[simp] def f160r6 : List ROper := [
  ⟨some 11, .bin .eql (.t 6) (.c (.int .i32 (.ofNat 12))), none⟩,
  ⟨some 7, .mv (.t 11), none⟩]
@[simp] def f160r7 : List ROper := [
  ⟨some 12, .bin .eql (.t 6) (.c (.int .i32 (.ofNat 13))), none⟩,
  ⟨some 7, .mv (.t 12), none⟩]
@[simp] def f160r8 : List ROper := [
  ⟨some 13, .bin .eql (.t 6) (.c (.int .i32 (.ofNat 32))), none⟩,
  ⟨some 7, .mv (.t 13), none⟩]
@[simp] def f160r9 : List ROper := [
  ⟨some 14, .bin .eql (.t 6) (.c (.int .i32 (.ofNat 133))), none⟩,
  ⟨some 7, .mv (.t 14), none⟩]
@[simp] def f160r10 : List ROper := [
  ⟨some 15, .bin .eql (.t 6) (.c (.int .i32 (.ofNat 160))), none⟩,
  ⟨some 7, .mv (.t 15), none⟩]
@[simp] def f160r11 : List ROper := [
  ⟨some 2, .mv (.c (.bool true)), none⟩]
@[simp] def f160r12 : List ROper := [
  ⟨some 2, .mv (.c (.bool false)), none⟩]
@[simp] def f160r13 : List ROper := [
  ⟨some 16, .fail, none⟩,
  ⟨some 17, .mv (.t 0), none⟩,
  ⟨some 18, .call 165 [(.t 16), (.t 17)], none⟩,
  ⟨some 2, .mv (.t 18), none⟩]
def f160 : RFunc := ⟨[.t 2], (.seq (.region f160r0 [0]) (.seq (.seq (.region f160r1 [0, 5]) (.cond (.t 5) (.seq (.seq (.region f160r2 [6]) (.block 0 (.seq (.seq (.region f160r3 [6, 7]) (.cond (.t 7) .skip (.seq (.region f160r4 [6, 7]) (.cond (.t 7) .skip (.seq (.region f160r5 [6, 7]) (.cond (.t 7) .skip (.seq (.region f160r6 [6, 7]) (.cond (.t 7) .skip (.seq (.region f160r7 [6, 7]) (.cond (.t 7) .skip (.seq (.region f160r8 [6, 7]) (.cond (.t 7) .skip (.seq (.region f160r9 [6, 7]) (.cond (.t 7) .skip (.region f160r10 [7]))))))))))))))) (.cond (.t 7) (.seq (.region f160r11 [2]) .ret) .skip)))) (.seq (.region f160r12 [2]) .ret)) .skip)) (.seq (.region f160r13 [2]) .ret))), true⟩

/-! quire/hyph.small -/
@[simp] def f161r0 : List ROper := [
  ⟨some 2, .mv (.c (.bool false)), none⟩]
@[simp] def f161r1 : List ROper := [
  ⟨some 3, .mv (.t 0), none⟩,
  ⟨some 4, .bin .geq (.t 3) (.c (.int .u8 (.ofNat 97))), none⟩,
  ⟨some 5, .mv (.t 4), none⟩,
  ⟨some 6, .mv (.t 0), some (5, true)⟩,
  ⟨some 7, .bin .leq (.t 6) (.c (.int .u8 (.ofNat 122))), some (5, true)⟩,
  ⟨some 8, .pick (.t 5) (.t 7) (.c (.bool false)), none⟩,
  ⟨some 2, .mv (.t 8), none⟩]
def f161 : RFunc := ⟨[.t 2], (.seq (.region f161r0 [0]) (.seq (.region f161r1 [2]) .ret)), true⟩

/-! cmp.isNaN[int] -/
@[simp] def f162r0 : List ROper := [
  ⟨some 2, .mv (.c (.bool false)), none⟩]
@[simp] def f162r1 : List ROper := [
  ⟨some 3, .mv (.t 0), none⟩,
  ⟨some 4, .mv (.t 0), none⟩,
  ⟨some 5, .bin .neq (.t 3) (.t 4), none⟩,
  ⟨some 2, .mv (.t 5), none⟩]
def f162 : RFunc := ⟨[.t 2], (.seq (.region f162r0 [0]) (.seq (.region f162r1 [2]) .ret)), true⟩

/-! quire/hyph.digit -/
@[simp] def f163r0 : List ROper := [
  ⟨some 2, .mv (.c (.bool false)), none⟩]
@[simp] def f163r1 : List ROper := [
  ⟨some 3, .mv (.t 0), none⟩,
  ⟨some 4, .bin .geq (.t 3) (.c (.int .u8 (.ofNat 48))), none⟩,
  ⟨some 5, .mv (.t 4), none⟩,
  ⟨some 6, .mv (.t 0), some (5, true)⟩,
  ⟨some 7, .bin .leq (.t 6) (.c (.int .u8 (.ofNat 57))), some (5, true)⟩,
  ⟨some 8, .pick (.t 5) (.t 7) (.c (.bool false)), none⟩,
  ⟨some 2, .mv (.t 8), none⟩]
def f163 : RFunc := ⟨[.t 2], (.seq (.region f163r0 [0]) (.seq (.region f163r1 [2]) .ret)), true⟩

/-! slices.Clone[[]byte,byte] -/
@[simp] def f164r0 : List ROper := [
  ⟨some 2, .mv (.c (.list 0 0 .no false [])), none⟩]
@[simp] def f164r1 : List ROper := [
  ⟨some 3, .mv (.t 0), none⟩,
  ⟨some 4, .eq .slice false (.t 3) (.c (.list 0 0 .no false [])), none⟩]
@[simp] def f164r2 : List ROper := [
  ⟨some 2, .mv (.c (.list 0 0 .no false [])), none⟩]
@[simp] def f164r3 : List ROper := [
  ⟨some 5, .lit 1 false [(.int .u8 (.ofNat 0))] 0 [], none⟩,
  ⟨some 6, .mv (.t 0), none⟩,
  ⟨some 7, .append 1 false 1 (.t 5) (.t 6), none⟩,
  ⟨some 2, .mv (.t 7), none⟩]
def f164 : RFunc := ⟨[.t 2], (.seq (.region f164r0 [0]) (.seq (.seq (.region f164r1 [0, 4]) (.cond (.t 4) (.seq (.region f164r2 [2]) .ret) .skip)) (.seq (.region f164r3 [2]) .ret))), true⟩

/-! unicode.isExcludingLatin -/
@[simp] def f165r0 : List ROper := [
  ⟨some 4, .mv (.c (.bool false)), none⟩]
@[simp] def f165r1 : List ROper := [
  ⟨some 8, .mv (.t 0), none⟩,
  ⟨some 9, .nilchk (.t 8), none⟩,
  ⟨some 10, .faddr 0 (.t 9), none⟩,
  ⟨some 11, .load 1 false (.t 10), none⟩,
  ⟨some 5, .mv (.t 11), none⟩]
@[simp] def f165r2 : List ROper := [
  ⟨some 12, .mv (.t 0), none⟩,
  ⟨some 13, .nilchk (.t 12), none⟩,
  ⟨some 14, .faddr 2 (.t 13), none⟩,
  ⟨some 15, .load 1 false (.t 14), none⟩,
  ⟨some 6, .mv (.t 15), none⟩]
@[simp] def f165r3 : List ROper := [
  ⟨some 16, .mv (.t 5), none⟩,
  ⟨some 17, .len .slice (.t 16), none⟩,
  ⟨some 18, .mv (.t 6), none⟩,
  ⟨some 19, .bin .gtr (.t 17) (.t 18), none⟩,
  ⟨some 20, .mv (.t 19), none⟩,
  ⟨some 21, .mv (.t 1), some (20, true)⟩,
  ⟨some 22, .i2i .u32 (.t 21), some (20, true)⟩,
  ⟨some 23, .mv (.t 5), some (20, true)⟩,
  ⟨some 24, .mv (.t 5), some (20, true)⟩,
  ⟨some 25, .len .slice (.t 24), some (20, true)⟩,
  ⟨some 26, .bin .sub (.t 25) (.c (.int .i64 (.ofNat 1))), some (20, true)⟩,
  ⟨some 27, .iaddr 3 (.t 23) (.t 26), some (20, true)⟩,
  ⟨some 28, .faddr 1 (.t 27), some (20, true)⟩,
  ⟨some 29, .load 1 false (.t 28), some (20, true)⟩,
  ⟨some 30, .i2i .u32 (.t 29), some (20, true)⟩,
  ⟨some 31, .bin .leq (.t 22) (.t 30), some (20, true)⟩,
  ⟨some 32, .pick (.t 20) (.t 31) (.c (.bool false)), none⟩]
@[simp] def f165r4 : List ROper := [
  ⟨some 33, .mv (.t 5), none⟩,
  ⟨some 34, .mv (.t 6), none⟩,
  ⟨some 35, .slice false 3 (.t 33) (some (.t 34)) none none, none⟩,
  ⟨some 36, .mv (.t 1), none⟩,
  ⟨some 37, .i2i .u16 (.t 36), none⟩,
  ⟨some 38, .call 166 [(.t 35), (.t 37)], none⟩,
  ⟨some 4, .mv (.t 38), none⟩]
@[simp] def f165r5 : List ROper := [
  ⟨some 39, .mv (.t 0), none⟩,
  ⟨some 40, .nilchk (.t 39), none⟩,
  ⟨some 41, .faddr 1 (.t 40), none⟩,
  ⟨some 42, .load 1 false (.t 41), none⟩,
  ⟨some 7, .mv (.t 42), none⟩]
@[simp] def f165r6 : List ROper := [
  ⟨some 43, .mv (.t 7), none⟩,
  ⟨some 44, .len .slice (.t 43), none⟩,
  ⟨some 45, .bin .gtr (.t 44) (.c (.int .i64 (.ofNat 0))), none⟩,
  ⟨some 46, .mv (.t 45), none⟩,
  ⟨some 47, .mv (.t 1), some (46, true)⟩,
  ⟨some 48, .mv (.t 7), some (46, true)⟩,
  ⟨some 49, .iaddr 3 (.t 48) (.c (.int .i64 (.ofNat 0))), some (46, true)⟩,
  ⟨some 50, .faddr 0 (.t 49), some (46, true)⟩,
  ⟨some 51, .load 1 false (.t 50), some (46, true)⟩,
  ⟨some 52, .i2i .i32 (.t 51), some (46, true)⟩,
  ⟨some 53, .bin .geq (.t 47) (.t 52), some (46, true)⟩,
  ⟨some 54, .pick (.t 46) (.t 53) (.c (.bool false)), none⟩]
@[simp] def f165r7 : List ROper := [
  ⟨some 55, .mv (.t 7), none⟩,
  ⟨some 56, .mv (.t 1), none⟩,
  ⟨some 57, .i2i .u32 (.t 56), none⟩,
  ⟨some 58, .call 167 [(.t 55), (.t 57)], none⟩,
  ⟨some 4, .mv (.t 58), none⟩]
@[simp] def f165r8 : List ROper := [
  ⟨some 4, .mv (.c (.bool false)), none⟩]
def f165 : RFunc := ⟨[.t 4], (.seq (.region f165r0 [0, 1]) (.seq (.region f165r1 [0, 1, 5]) (.seq (.seq (.region f165r2 [0, 1, 5, 6]) (.seq (.region f165r3 [0, 1, 5, 6, 32]) (.cond (.t 32) (.seq (.region f165r4 [4]) .ret) .skip))) (.seq (.region f165r5 [1, 7]) (.seq (.seq (.region f165r6 [1, 7, 54]) (.cond (.t 54) (.seq (.region f165r7 [4]) .ret) .skip)) (.seq (.region f165r8 [4]) .ret)))))), false⟩

/-! unicode.is16 -/
@[simp] def f166r0 : List ROper := [
  ⟨some 4, .mv (.c (.bool false)), none⟩]
@[simp] def f166r1 : List ROper := [
  ⟨some 11, .mv (.t 0), none⟩,
  ⟨some 12, .len .slice (.t 11), none⟩,
  ⟨some 13, .bin .leq (.t 12) (.c (.int .i64 (.ofNat 18))), none⟩,
  ⟨some 14, .mv (.t 13), none⟩,
  ⟨some 15, .mv (.t 1), some (14, false)⟩,
  ⟨some 16, .bin .leq (.t 15) (.c (.int .u16 (.ofNat 255))), some (14, false)⟩,
  ⟨some 17, .pick (.t 14) (.c (.bool true)) (.t 16), none⟩]
@[simp] def f166r2 : List ROper := [
  ⟨some 18, .mv (.t 0), none⟩,
  ⟨some 19, .len .slice (.t 18), none⟩,
  ⟨some 20, .mv (.c (.int .i64 (.ofNat 0))), none⟩]
@[simp] def f166r3 : List ROper := [
  ⟨some 21, .bin .lss (.t 20) (.t 19), none⟩]
@[simp] def f166r4 : List ROper := [
  ⟨some 22, .mv (.t 20), none⟩,
  ⟨some 5, .mv (.t 22), none⟩]
@[simp] def f166r5 : List ROper := [
  ⟨some 23, .mv (.t 0), none⟩,
  ⟨some 24, .mv (.t 5), none⟩,
  ⟨some 25, .iaddr 3 (.t 23) (.t 24), none⟩,
  ⟨some 6, .mv (.t 25), none⟩]
@[simp] def f166r6 : List ROper := [
  ⟨some 26, .mv (.t 1), none⟩,
  ⟨some 27, .mv (.t 6), none⟩,
  ⟨some 28, .nilchk (.t 27), none⟩,
  ⟨some 29, .faddr 0 (.t 28), none⟩,
  ⟨some 30, .load 1 false (.t 29), none⟩,
  ⟨some 31, .bin .lss (.t 26) (.t 30), none⟩]
@[simp] def f166r7 : List ROper := [
  ⟨some 4, .mv (.c (.bool false)), none⟩]
@[simp] def f166r8 : List ROper := [
  ⟨some 32, .mv (.t 1), none⟩,
  ⟨some 33, .mv (.t 6), none⟩,
  ⟨some 34, .nilchk (.t 33), none⟩,
  ⟨some 35, .faddr 1 (.t 34), none⟩,
  ⟨some 36, .load 1 false (.t 35), none⟩,
  ⟨some 37, .bin .leq (.t 32) (.t 36), none⟩]
@[simp] def f166r9 : List ROper := [
  ⟨some 38, .mv (.t 6), none⟩,
  ⟨some 39, .nilchk (.t 38), none⟩,
  ⟨some 40, .faddr 2 (.t 39), none⟩,
  ⟨some 41, .load 1 false (.t 40), none⟩,
  ⟨some 42, .bin .eql (.t 41) (.c (.int .u16 (.ofNat 1))), none⟩,
  ⟨some 43, .mv (.t 42), none⟩,
  ⟨some 44, .mv (.t 1), some (43, false)⟩,
  ⟨some 45, .mv (.t 6), some (43, false)⟩,
  ⟨some 46, .nilchk (.t 45), some (43, false)⟩,
  ⟨some 47, .faddr 0 (.t 46), some (43, false)⟩,
  ⟨some 48, .load 1 false (.t 47), some (43, false)⟩,
  ⟨some 49, .bin .sub (.t 44) (.t 48), some (43, false)⟩,
  ⟨some 50, .mv (.t 6), some (43, false)⟩,
  ⟨some 51, .nilchk (.t 50), some (43, false)⟩,
  ⟨some 52, .faddr 2 (.t 51), some (43, false)⟩,
  ⟨some 53, .load 1 false (.t 52), some (43, false)⟩,
  ⟨some 54, .bin .rem (.t 49) (.t 53), some (43, false)⟩,
  ⟨some 55, .bin .eql (.t 54) (.c (.int .u16 (.ofNat 0))), some (43, false)⟩,
  ⟨some 56, .pick (.t 43) (.c (.bool true)) (.t 55), none⟩,
  ⟨some 4, .mv (.t 56), none⟩]
@[simp] def f166r10 : List ROper := [
  ⟨some 57, .bin .add (.t 20) (.c (.int .i64 (.ofNat 1))), none⟩,
  ⟨some 20, .mv (.t 57), none⟩]
def f166B0 : RC := (.seq (.region f166r3 [0, 1, 19, 20, 21]) (.seq (.cond (.t 21) .skip (.exit 0)) (.seq (.block 1 (.seq (.region f166r4 [0, 1, 5, 19, 20]) (.seq (.region f166r5 [0, 1, 6, 19, 20]) (.seq (.seq (.region f166r6 [0, 1, 6, 19, 20, 31]) (.cond (.t 31) (.seq (.region f166r7 [4]) .ret) .skip)) (.seq (.region f166r8 [0, 1, 6, 19, 20, 37]) (.cond (.t 37) (.seq (.dregion f166r9 [] [] [4]) .ret) .skip)))))) (.region f166r10 [0, 1, 19, 20]))))
def f166L0 : RC := .loop [0, 1, 19, 20] f166B0
@[simp] def f166r11 : List ROper := [
  ⟨some 4, .mv (.c (.bool false)), none⟩]
@[simp] def f166r12 : List ROper := [
  ⟨some 7, .mv (.c (.int .i64 (.ofNat 0))), none⟩]
@[simp] def f166r13 : List ROper := [
  ⟨some 58, .mv (.t 0), none⟩,
  ⟨some 59, .len .slice (.t 58), none⟩,
  ⟨some 8, .mv (.t 59), none⟩]
@[simp] def f166r14 : List ROper := [
  ⟨some 60, .mv (.t 7), none⟩,
  ⟨some 61, .mv (.t 8), none⟩,
  ⟨some 62, .bin .lss (.t 60) (.t 61), none⟩]
@[simp] def f166r15 : List ROper := [
  ⟨some 63, .mv (.t 7), none⟩,
  ⟨some 64, .mv (.t 8), none⟩,
  ⟨some 65, .bin .add (.t 63) (.t 64), none⟩,
  ⟨some 66, .i2i .u64 (.t 65), none⟩,
  ⟨some 67, .bin .shr (.t 66) (.c (.int .u64 (.ofNat 1))), none⟩,
  ⟨some 68, .i2i .i64 (.t 67), none⟩,
  ⟨some 9, .mv (.t 68), none⟩]
@[simp] def f166r16 : List ROper := [
  ⟨some 69, .mv (.t 0), none⟩,
  ⟨some 70, .mv (.t 9), none⟩,
  ⟨some 71, .iaddr 3 (.t 69) (.t 70), none⟩,
  ⟨some 10, .mv (.t 71), none⟩]
@[simp] def f166r17 : List ROper := [
  ⟨some 72, .mv (.t 10), none⟩,
  ⟨some 73, .nilchk (.t 72), none⟩,
  ⟨some 74, .faddr 0 (.t 73), none⟩,
  ⟨some 75, .load 1 false (.t 74), none⟩,
  ⟨some 76, .mv (.t 1), none⟩,
  ⟨some 77, .bin .leq (.t 75) (.t 76), none⟩,
  ⟨some 78, .mv (.t 77), none⟩,
  ⟨some 79, .mv (.t 1), some (78, true)⟩,
  ⟨some 80, .mv (.t 10), some (78, true)⟩,
  ⟨some 81, .nilchk (.t 80), some (78, true)⟩,
  ⟨some 82, .faddr 1 (.t 81), some (78, true)⟩,
  ⟨some 83, .load 1 false (.t 82), some (78, true)⟩,
  ⟨some 84, .bin .leq (.t 79) (.t 83), some (78, true)⟩,
  ⟨some 85, .pick (.t 78) (.t 84) (.c (.bool false)), none⟩]
@[simp] def f166r18 : List ROper := [
  ⟨some 86, .mv (.t 10), none⟩,
  ⟨some 87, .nilchk (.t 86), none⟩,
  ⟨some 88, .faddr 2 (.t 87), none⟩,
  ⟨some 89, .load 1 false (.t 88), none⟩,
  ⟨some 90, .bin .eql (.t 89) (.c (.int .u16 (.ofNat 1))), none⟩,
  ⟨some 91, .mv (.t 90), none⟩,
  ⟨some 92, .mv (.t 1), some (91, false)⟩,
  ⟨some 93, .mv (.t 10), some (91, false)⟩,
  ⟨some 94, .nilchk (.t 93), some (91, false)⟩,
  ⟨some 95, .faddr 0 (.t 94), some (91, false)⟩,
  ⟨some 96, .load 1 false (.t 95), some (91, false)⟩,
  ⟨some 97, .bin .sub (.t 92) (.t 96), some (91, false)⟩,
  ⟨some 98, .mv (.t 10), some (91, false)⟩,
  ⟨some 99, .nilchk (.t 98), some (91, false)⟩,
  ⟨some 100, .faddr 2 (.t 99), some (91, false)⟩,
  ⟨some 101, .load 1 false (.t 100), some (91, false)⟩,
  ⟨some 102, .bin .rem (.t 97) (.t 101), some (91, false)⟩,
  ⟨some 103, .bin .eql (.t 102) (.c (.int .u16 (.ofNat 0))), some (91, false)⟩,
  ⟨some 104, .pick (.t 91) (.c (.bool true)) (.t 103), none⟩,
  ⟨some 4, .mv (.t 104), none⟩]
@[simp] def f166r19 : List ROper := [
  ⟨some 105, .mv (.t 1), none⟩,
  ⟨some 106, .mv (.t 10), none⟩,
  ⟨some 107, .nilchk (.t 106), none⟩,
  ⟨some 108, .faddr 0 (.t 107), none⟩,
  ⟨some 109, .load 1 false (.t 108), none⟩,
  ⟨some 110, .bin .lss (.t 105) (.t 109), none⟩]
@[simp] def f166r20 : List ROper := [
  ⟨some 111, .mv (.t 9), none⟩,
  ⟨some 8, .mv (.t 111), none⟩]
@[simp] def f166r21 : List ROper := [
  ⟨some 112, .mv (.t 9), none⟩,
  ⟨some 113, .bin .add (.t 112) (.c (.int .i64 (.ofNat 1))), none⟩,
  ⟨some 7, .mv (.t 113), none⟩]
def f166B1 : RC := (.seq (.seq (.region f166r14 [0, 1, 7, 8, 62]) (.cond (.t 62) .skip (.exit 2))) (.block 3 (.seq (.region f166r15 [0, 1, 7, 8, 9]) (.seq (.region f166r16 [0, 1, 7, 8, 9, 10]) (.seq (.seq (.region f166r17 [0, 1, 7, 8, 9, 10, 85]) (.cond (.t 85) (.seq (.dregion f166r18 [] [] [4]) .ret) .skip)) (.seq (.region f166r19 [0, 1, 7, 8, 9, 110]) (.cond (.t 110) (.region f166r20 [0, 1, 7, 8]) (.region f166r21 [0, 1, 7, 8]))))))))
def f166L1 : RC := .loop [0, 1, 7, 8] f166B1
@[simp] def f166r22 : List ROper := [
  ⟨some 4, .mv (.c (.bool false)), none⟩]
def f166 : RFunc := ⟨[.t 4], (.seq (.region f166r0 [0, 1]) (.seq (.seq (.region f166r1 [0, 1, 17]) (.cond (.t 17) (.seq (.seq (.region f166r2 [0, 1, 19, 20]) (.block 0 f166L0)) (.seq (.region f166r11 [4]) .ret)) .skip)) (.seq (.region f166r12 [0, 1, 7]) (.seq (.region f166r13 [0, 1, 7, 8]) (.seq (.block 2 f166L1) (.seq (.region f166r22 [4]) .ret)))))), true⟩

/-! unicode.is32 -/
@[simp] def f167r0 : List ROper := [
  ⟨some 4, .mv (.c (.bool false)), none⟩]
@[simp] def f167r1 : List ROper := [
  ⟨some 11, .mv (.t 0), none⟩,
  ⟨some 12, .len .slice (.t 11), none⟩,
  ⟨some 13, .bin .leq (.t 12) (.c (.int .i64 (.ofNat 18))), none⟩]
@[simp] def f167r2 : List ROper := [
  ⟨some 14, .mv (.t 0), none⟩,
  ⟨some 15, .len .slice (.t 14), none⟩,
  ⟨some 16, .mv (.c (.int .i64 (.ofNat 0))), none⟩]
@[simp] def f167r3 : List ROper := [
  ⟨some 17, .bin .lss (.t 16) (.t 15), none⟩]
@[simp] def f167r4 : List ROper := [
  ⟨some 18, .mv (.t 16), none⟩,
  ⟨some 5, .mv (.t 18), none⟩]
@[simp] def f167r5 : List ROper := [
  ⟨some 19, .mv (.t 0), none⟩,
  ⟨some 20, .mv (.t 5), none⟩,
  ⟨some 21, .iaddr 3 (.t 19) (.t 20), none⟩,
  ⟨some 6, .mv (.t 21), none⟩]
@[simp] def f167r6 : List ROper := [
  ⟨some 22, .mv (.t 1), none⟩,
  ⟨some 23, .mv (.t 6), none⟩,
  ⟨some 24, .nilchk (.t 23), none⟩,
  ⟨some 25, .faddr 0 (.t 24), none⟩,
  ⟨some 26, .load 1 false (.t 25), none⟩,
  ⟨some 27, .bin .lss (.t 22) (.t 26), none⟩]
@[simp] def f167r7 : List ROper := [
  ⟨some 4, .mv (.c (.bool false)), none⟩]
@[simp] def f167r8 : List ROper := [
  ⟨some 28, .mv (.t 1), none⟩,
  ⟨some 29, .mv (.t 6), none⟩,
  ⟨some 30, .nilchk (.t 29), none⟩,
  ⟨some 31, .faddr 1 (.t 30), none⟩,
  ⟨some 32, .load 1 false (.t 31), none⟩,
  ⟨some 33, .bin .leq (.t 28) (.t 32), none⟩]
@[simp] def f167r9 : List ROper := [
  ⟨some 34, .mv (.t 6), none⟩,
  ⟨some 35, .nilchk (.t 34), none⟩,
  ⟨some 36, .faddr 2 (.t 35), none⟩,
  ⟨some 37, .load 1 false (.t 36), none⟩,
  ⟨some 38, .bin .eql (.t 37) (.c (.int .u32 (.ofNat 1))), none⟩,
  ⟨some 39, .mv (.t 38), none⟩,
  ⟨some 40, .mv (.t 1), some (39, false)⟩,
  ⟨some 41, .mv (.t 6), some (39, false)⟩,
  ⟨some 42, .nilchk (.t 41), some (39, false)⟩,
  ⟨some 43, .faddr 0 (.t 42), some (39, false)⟩,
  ⟨some 44, .load 1 false (.t 43), some (39, false)⟩,
  ⟨some 45, .bin .sub (.t 40) (.t 44), some (39, false)⟩,
  ⟨some 46, .mv (.t 6), some (39, false)⟩,
  ⟨some 47, .nilchk (.t 46), some (39, false)⟩,
  ⟨some 48, .faddr 2 (.t 47), some (39, false)⟩,
  ⟨some 49, .load 1 false (.t 48), some (39, false)⟩,
  ⟨some 50, .bin .rem (.t 45) (.t 49), some (39, false)⟩,
  ⟨some 51, .bin .eql (.t 50) (.c (.int .u32 (.ofNat 0))), some (39, false)⟩,
  ⟨some 52, .pick (.t 39) (.c (.bool true)) (.t 51), none⟩,
  ⟨some 4, .mv (.t 52), none⟩]
@[simp] def f167r10 : List ROper := [
  ⟨some 53, .bin .add (.t 16) (.c (.int .i64 (.ofNat 1))), none⟩,
  ⟨some 16, .mv (.t 53), none⟩]
def f167B0 : RC := (.seq (.region f167r3 [0, 1, 15, 16, 17]) (.seq (.cond (.t 17) .skip (.exit 0)) (.seq (.block 1 (.seq (.region f167r4 [0, 1, 5, 15, 16]) (.seq (.region f167r5 [0, 1, 6, 15, 16]) (.seq (.seq (.region f167r6 [0, 1, 6, 15, 16, 27]) (.cond (.t 27) (.seq (.region f167r7 [4]) .ret) .skip)) (.seq (.region f167r8 [0, 1, 6, 15, 16, 33]) (.cond (.t 33) (.seq (.dregion f167r9 [] [] [4]) .ret) .skip)))))) (.region f167r10 [0, 1, 15, 16]))))
def f167L0 : RC := .loop [0, 1, 15, 16] f167B0
@[simp] def f167r11 : List ROper := [
  ⟨some 4, .mv (.c (.bool false)), none⟩]
@[simp] def f167r12 : List ROper := [
  ⟨some 7, .mv (.c (.int .i64 (.ofNat 0))), none⟩]
@[simp] def f167r13 : List ROper := [
  ⟨some 54, .mv (.t 0), none⟩,
  ⟨some 55, .len .slice (.t 54), none⟩,
  ⟨some 8, .mv (.t 55), none⟩]
@[simp] def f167r14 : List ROper := [
  ⟨some 56, .mv (.t 7), none⟩,
  ⟨some 57, .mv (.t 8), none⟩,
  ⟨some 58, .bin .lss (.t 56) (.t 57), none⟩]
@[simp] def f167r15 : List ROper := [
  ⟨some 59, .mv (.t 7), none⟩,
  ⟨some 60, .mv (.t 8), none⟩,
  ⟨some 61, .bin .add (.t 59) (.t 60), none⟩,
  ⟨some 62, .i2i .u64 (.t 61), none⟩,
  ⟨some 63, .bin .shr (.t 62) (.c (.int .u64 (.ofNat 1))), none⟩,
  ⟨some 64, .i2i .i64 (.t 63), none⟩,
  ⟨some 9, .mv (.t 64), none⟩]
@[simp] def f167r16 : List ROper := [
  ⟨some 65, .mv (.t 0), none⟩,
  ⟨some 66, .mv (.t 9), none⟩,
  ⟨some 67, .iaddr 3 (.t 65) (.t 66), none⟩,
  ⟨some 68, .load 3 true (.t 67), none⟩,
  ⟨some 10, .alloc [(.int .u32 (.ofNat 0)), (.int .u32 (.ofNat 0)), (.int .u32 (.ofNat 0))], none⟩,
  ⟨none, .store 3 (.t 10) (.t 68), none⟩]
@[simp] def f167r17 : List ROper := [
  ⟨some 69, .faddr 0 (.t 10), none⟩,
  ⟨some 70, .load 1 false (.t 69), none⟩,
  ⟨some 71, .mv (.t 1), none⟩,
  ⟨some 72, .bin .leq (.t 70) (.t 71), none⟩,
  ⟨some 73, .mv (.t 72), none⟩,
  ⟨some 74, .mv (.t 1), some (73, true)⟩,
  ⟨some 75, .faddr 1 (.t 10), some (73, true)⟩,
  ⟨some 76, .load 1 false (.t 75), some (73, true)⟩,
  ⟨some 77, .bin .leq (.t 74) (.t 76), some (73, true)⟩,
  ⟨some 78, .pick (.t 73) (.t 77) (.c (.bool false)), none⟩]
@[simp] def f167r18 : List ROper := [
  ⟨some 79, .faddr 2 (.t 10), none⟩,
  ⟨some 80, .load 1 false (.t 79), none⟩,
  ⟨some 81, .bin .eql (.t 80) (.c (.int .u32 (.ofNat 1))), none⟩,
  ⟨some 82, .mv (.t 81), none⟩,
  ⟨some 83, .mv (.t 1), some (82, false)⟩,
  ⟨some 84, .faddr 0 (.t 10), some (82, false)⟩,
  ⟨some 85, .load 1 false (.t 84), some (82, false)⟩,
  ⟨some 86, .bin .sub (.t 83) (.t 85), some (82, false)⟩,
  ⟨some 87, .faddr 2 (.t 10), some (82, false)⟩,
  ⟨some 88, .load 1 false (.t 87), some (82, false)⟩,
  ⟨some 89, .bin .rem (.t 86) (.t 88), some (82, false)⟩,
  ⟨some 90, .bin .eql (.t 89) (.c (.int .u32 (.ofNat 0))), some (82, false)⟩,
  ⟨some 91, .pick (.t 82) (.c (.bool true)) (.t 90), none⟩,
  ⟨some 4, .mv (.t 91), none⟩]
@[simp] def f167r19 : List ROper := [
  ⟨some 92, .mv (.t 1), none⟩,
  ⟨some 93, .faddr 0 (.t 10), none⟩,
  ⟨some 94, .load 1 false (.t 93), none⟩,
  ⟨some 95, .bin .lss (.t 92) (.t 94), none⟩]
@[simp] def f167r20 : List ROper := [
  ⟨some 96, .mv (.t 9), none⟩,
  ⟨some 8, .mv (.t 96), none⟩]
@[simp] def f167r21 : List ROper := [
  ⟨some 97, .mv (.t 9), none⟩,
  ⟨some 98, .bin .add (.t 97) (.c (.int .i64 (.ofNat 1))), none⟩,
  ⟨some 7, .mv (.t 98), none⟩]
def f167B1 : RC := (.seq (.seq (.region f167r14 [0, 1, 7, 8, 58]) (.cond (.t 58) .skip (.exit 2))) (.block 3 (.seq (.region f167r15 [0, 1, 7, 8, 9]) (.seq (.region f167r16 [0, 1, 7, 8, 9, 10]) (.seq (.seq (.region f167r17 [0, 1, 7, 8, 9, 10, 78]) (.cond (.t 78) (.seq (.region f167r18 [4]) .ret) .skip)) (.seq (.region f167r19 [0, 1, 7, 8, 9, 95]) (.cond (.t 95) (.region f167r20 [0, 1, 7, 8]) (.region f167r21 [0, 1, 7, 8]))))))))
def f167L1 : RC := .loop [0, 1, 7, 8] f167B1
@[simp] def f167r22 : List ROper := [
  ⟨some 4, .mv (.c (.bool false)), none⟩]
def f167 : RFunc := ⟨[.t 4], (.seq (.region f167r0 [0, 1]) (.seq (.seq (.region f167r1 [0, 1, 13]) (.cond (.t 13) (.seq (.seq (.region f167r2 [0, 1, 15, 16]) (.block 0 f167L0)) (.seq (.region f167r11 [4]) .ret)) .skip)) (.seq (.region f167r12 [0, 1, 7]) (.seq (.region f167r13 [0, 1, 7, 8]) (.seq (.block 2 f167L1) (.seq (.region f167r22 [4]) .ret)))))), true⟩

/-! quire/set.Drop -/
@[simp] def f211r0 : List ROper := [
  ⟨some 1, .box 21 (.t 0), none⟩,
  ⟨some 2, .mv (.c (.int .i64 (.ofNat 0))), none⟩,
  ⟨some 3, .mv (.c (.int .i64 (.ofNat 0))), none⟩]
@[simp] def f211r1 : List ROper := [
  ⟨some 7, .load 21 true (.t 1), none⟩,
  ⟨some 8, .call 10 [(.t 7)], none⟩,
  ⟨some 6, .mv (.t 8), none⟩,
  ⟨some 9, .extract (.t 6) 0, none⟩,
  ⟨some 10, .extract (.t 6) 1, none⟩,
  ⟨some 4, .mv (.t 9), none⟩,
  ⟨some 5, .mv (.t 10), none⟩]
@[simp] def f211r2 : List ROper := [
  ⟨some 11, .mv (.t 5), none⟩,
  ⟨some 12, .bin .neq (.t 11) (.c (.int .i64 (.ofNat 0))), none⟩]
@[simp] def f211r3 : List ROper := [
  ⟨some 13, .mv (.t 5), none⟩,
  ⟨some 2, .mv (.c (.int .i64 (.ofNat 0))), none⟩,
  ⟨some 3, .mv (.t 13), none⟩]
@[simp] def f211r4 : List ROper := [
  ⟨some 14, .load 21 true (.t 1), none⟩,
  ⟨some 15, .mv (.t 4), none⟩,
  ⟨some 16, .call 234 [(.t 14), (.t 15)], none⟩,
  ⟨some 2, .mv (.t 16), none⟩,
  ⟨some 3, .mv (.c (.int .i64 (.ofNat 0))), none⟩]
def f211 : RFunc := ⟨[.t 2, .t 3], (.seq (.region f211r0 [1]) (.seq (.region f211r1 [1, 4, 5]) (.seq (.seq (.region f211r2 [1, 4, 5, 12]) (.cond (.t 12) (.seq (.region f211r3 [2, 3]) .ret) .skip)) (.seq (.region f211r4 [2, 3]) .ret)))), true⟩

/-! quire/least.Break -/
@[simp] def f218r0 : List ROper := [
  ⟨some 5, .box 2 (.t 2), none⟩,
  ⟨some 6, .mv (.c (.list 0 0 .no false [])), none⟩,
  ⟨some 7, .mv (.c (.int .i64 (.ofNat 0))), none⟩,
  ⟨some 8, .mv (.c (.int .i64 (.ofNat 0))), none⟩]
@[simp] def f218r1 : List ROper := [
  ⟨some 23, .mv (.t 0), none⟩,
  ⟨some 24, .mv (.t 1), none⟩,
  ⟨some 25, .load 2 true (.t 5), none⟩,
  ⟨some 26, .call 242 [(.t 23), (.t 24), (.t 25)], none⟩,
  ⟨some 9, .mv (.t 26), none⟩]
@[simp] def f218r2 : List ROper := [
  ⟨some 27, .mv (.t 9), none⟩,
  ⟨some 28, .bin .neq (.t 27) (.c (.int .i64 (.ofNat 0))), none⟩]
@[simp] def f218r3 : List ROper := [
  ⟨some 29, .mv (.t 9), none⟩,
  ⟨some 6, .mv (.c (.list 0 0 .no false [])), none⟩,
  ⟨some 7, .mv (.c (.int .i64 (.ofNat 0))), none⟩,
  ⟨some 8, .mv (.t 29), none⟩]
@[simp] def f218r4 : List ROper := [
  ⟨some 30, .mv (.t 0), none⟩,
  ⟨some 31, .mv (.t 1), none⟩,
  ⟨some 32, .load 2 true (.t 5), none⟩,
  ⟨some 33, .build [(.list 0 0 .no false []), (.list 0 0 .no false []), (.int .i64 (.ofNat 0)), (.int .i64 (.ofNat 0)), (.list 0 0 .no false []), (.list 0 0 .no false []), (.list 0 0 .no false []), (.list 0 0 .no false [])] [(0, 1, (.t 30)), (1, 1, (.t 31)), (2, 2, (.t 32))], none⟩,
  ⟨some 34, .box 8 (.t 33), none⟩,
  ⟨some 10, .mv (.t 34), none⟩]
@[simp] def f218r5 : List ROper := [
  ⟨some 35, .mv (.t 10), none⟩,
  ⟨some 36, .call 243 [(.t 35)], none⟩]
@[simp] def f218r6 : List ROper := [
  ⟨some 37, .mv (.t 10), none⟩,
  ⟨some 38, .call 244 [(.t 37)], none⟩]
@[simp] def f218r7 : List ROper := [
  ⟨some 39, .mv (.t 0), none⟩,
  ⟨some 40, .len .slice (.t 39), none⟩,
  ⟨some 41, .mv (.t 0), none⟩,
  ⟨some 42, .len .slice (.t 41), none⟩,
  ⟨some 43, .build [(.int .i64 (.ofNat 0)), (.int .i64 (.ofNat 0)), (.bool false), (.bool false), (.int .i64 (.ofNat 0))] [(0, 1, (.t 40)), (1, 1, (.t 42))], none⟩,
  ⟨some 44, .lit 5 true [(.int .i64 (.ofNat 0)), (.int .i64 (.ofNat 0)), (.bool false), (.bool false), (.int .i64 (.ofNat 0))] 1 [(0, (.t 43))], none⟩,
  ⟨some 6, .mv (.t 44), none⟩,
  ⟨some 7, .mv (.c (.int .i64 (.ofNat 100))), none⟩,
  ⟨some 8, .mv (.c (.int .i64 (.ofNat 0))), none⟩]
@[simp] def f218r8 : List ROper := [
  ⟨some 45, .mv (.t 10), none⟩,
  ⟨some 46, .call 245 [(.t 45)], none⟩,
  ⟨some 11, .mv (.t 46), none⟩]
@[simp] def f218r9 : List ROper := [
  ⟨some 12, .mv (.c (.int .i64 (.negSucc 0))), none⟩,
  ⟨some 13, .mv (.c (.int .i64 (.ofNat 0))), none⟩]
@[simp] def f218r10 : List ROper := [
  ⟨some 14, .mv (.c (.int .i64 (.ofNat 0))), none⟩]
@[simp] def f218r11 : List ROper := [
  ⟨some 47, .mv (.t 14), none⟩,
  ⟨some 48, .mv (.t 0), none⟩,
  ⟨some 49, .len .slice (.t 48), none⟩,
  ⟨some 50, .bin .leq (.t 47) (.t 49), none⟩]
@[simp] def f218r12 : List ROper := [
  ⟨some 54, .mv (.t 11), none⟩,
  ⟨some 55, .mv (.t 0), none⟩,
  ⟨some 56, .len .slice (.t 55), none⟩,
  ⟨some 57, .mv (.t 14), none⟩,
  ⟨some 58, .build [(.int .i64 (.ofNat 0)), (.int .i64 (.ofNat 0))] [(0, 1, (.t 56)), (1, 1, (.t 57))], none⟩,
  ⟨some 59, .lookup [.int, .int] (.agg [(.int .i64 (.ofNat 0)), (.int .i64 (.ofNat 0))]) (.t 54) (.t 58) true, none⟩,
  ⟨some 53, .mv (.t 59), none⟩,
  ⟨some 60, .extract (.t 53) 0, none⟩,
  ⟨some 61, .extract (.t 53) 1, none⟩,
  ⟨some 15, .alloc [(.int .i64 (.ofNat 0)), (.int .i64 (.ofNat 0))], none⟩,
  ⟨none, .store 2 (.t 15) (.t 60), none⟩,
  ⟨some 16, .mv (.t 61), none⟩]
@[simp] def f218r13 : List ROper := [
  ⟨some 62, .mv (.t 16), none⟩,
  ⟨some 63, .mv (.t 62), none⟩,
  ⟨some 64, .mv (.t 12), some (63, true)⟩,
  ⟨some 65, .bin .lss (.t 64) (.c (.int .i64 (.ofNat 0))), some (63, true)⟩,
  ⟨some 66, .mv (.t 65), some (63, true)⟩,
  ⟨some 67, .faddr 0 (.t 15), some (66, false)⟩,
  ⟨some 68, .load 1 false (.t 67), some (66, false)⟩,
  ⟨some 69, .mv (.t 13), some (66, false)⟩,
  ⟨some 70, .bin .lss (.t 68) (.t 69), some (66, false)⟩,
  ⟨some 71, .pick (.t 66) (.c (.bool true)) (.t 70), some (63, true)⟩,
  ⟨some 72, .pick (.t 63) (.t 71) (.c (.bool false)), none⟩]
@[simp] def f218r14 : List ROper := [
  ⟨some 73, .mv (.t 14), none⟩,
  ⟨some 74, .faddr 0 (.t 15), none⟩,
  ⟨some 75, .load 1 false (.t 74), none⟩,
  ⟨some 12, .mv (.t 73), none⟩,
  ⟨some 13, .mv (.t 75), none⟩]
@[simp] def f218r15 : List ROper := [
  ⟨some 51, .mv (.t 14), none⟩,
  ⟨some 52, .bin .add (.t 51) (.c (.int .i64 (.ofNat 1))), none⟩,
  ⟨some 14, .mv (.t 52), none⟩]
def f218B0 : RC := (.seq (.seq (.region f218r11 [0, 1, 5, 10, 11, 12, 13, 14, 50]) (.cond (.t 50) .skip (.exit 0))) (.seq (.block 1 (.seq (.region f218r12 [0, 1, 5, 10, 11, 12, 13, 14, 15, 16]) (.seq (.region f218r13 [0, 1, 5, 10, 11, 12, 13, 14, 15, 72]) (.cond (.t 72) (.dregion f218r14 [] [] [0, 1, 5, 10, 11, 12, 13, 14]) .skip)))) (.region f218r15 [0, 1, 5, 10, 11, 12, 13, 14])))
def f218L0 : RC := .loop [0, 1, 5, 10, 11, 12, 13, 14] f218B0
@[simp] def f218r16 : List ROper := [
  ⟨some 76, .mv (.t 12), none⟩,
  ⟨some 77, .bin .lss (.t 76) (.c (.int .i64 (.ofNat 0))), none⟩]
@[simp] def f218r17 : List ROper := [
  ⟨some 6, .mv (.c (.list 0 0 .no false [])), none⟩,
  ⟨some 7, .mv (.c (.int .i64 (.ofNat 0))), none⟩,
  ⟨some 8, .mv (.c (.int .i64 (.ofNat 6))), none⟩]
@[simp] def f218r18 : List ROper := [
  ⟨some 17, .mv (.c (.list 0 0 .no false [])), none⟩]
@[simp] def f218r19 : List ROper := [
  ⟨some 78, .mv (.t 12), none⟩,
  ⟨some 79, .mv (.t 0), none⟩,
  ⟨some 80, .len .slice (.t 79), none⟩,
  ⟨some 18, .mv (.t 78), none⟩,
  ⟨some 19, .mv (.t 80), none⟩]
@[simp] def f218r20 : List ROper := [
  ⟨some 81, .mv (.t 18), none⟩,
  ⟨some 82, .bin .geq (.t 81) (.c (.int .i64 (.ofNat 0))), none⟩]
@[simp] def f218r21 : List ROper := [
  ⟨some 85, .mv (.t 11), none⟩,
  ⟨some 86, .mv (.t 19), none⟩,
  ⟨some 87, .mv (.t 18), none⟩,
  ⟨some 88, .build [(.int .i64 (.ofNat 0)), (.int .i64 (.ofNat 0))] [(0, 1, (.t 86)), (1, 1, (.t 87))], none⟩,
  ⟨some 89, .lookup [.int, .int] (.agg [(.int .i64 (.ofNat 0)), (.int .i64 (.ofNat 0))]) (.t 85) (.t 88) false, none⟩,
  ⟨some 90, .field 1 false 1 (.t 89), none⟩,
  ⟨some 20, .mv (.t 90), none⟩]
@[simp] def f218r22 : List ROper := [
  ⟨some 91, .mv (.t 10), none⟩,
  ⟨some 92, .mv (.t 20), none⟩,
  ⟨some 93, .call 246 [(.t 91), (.t 92)], none⟩,
  ⟨some 21, .mv (.t 93), none⟩]
@[simp] def f218r23 : List ROper := [
  ⟨some 94, .mv (.t 10), none⟩,
  ⟨some 95, .mv (.t 21), none⟩,
  ⟨some 96, .mv (.t 19), none⟩,
  ⟨some 97, .call 247 [(.t 94), (.t 95), (.t 96)], none⟩,
  ⟨some 22, .mv (.t 97), none⟩]
@[simp] def f218r24 : List ROper := [
  ⟨some 98, .mv (.t 17), none⟩,
  ⟨some 99, .mv (.t 21), none⟩,
  ⟨some 100, .mv (.t 19), none⟩,
  ⟨some 101, .mv (.t 22), none⟩,
  ⟨some 102, .mv (.t 1), none⟩,
  ⟨some 103, .load 2 true (.t 5), none⟩,
  ⟨some 104, .mv (.t 18), none⟩,
  ⟨some 105, .call 114 [(.t 102), (.t 103), (.t 104)], none⟩,
  ⟨some 106, .field 1 false 1 (.t 105), none⟩,
  ⟨some 107, .bin .gtr (.t 101) (.t 106), none⟩,
  ⟨some 108, .mv (.t 10), none⟩,
  ⟨some 109, .mv (.t 19), none⟩,
  ⟨some 110, .call 248 [(.t 108), (.t 109)], none⟩,
  ⟨some 111, .mv (.t 22), none⟩,
  ⟨some 112, .build [(.int .i64 (.ofNat 0)), (.int .i64 (.ofNat 0)), (.bool false), (.bool false), (.int .i64 (.ofNat 0))] [(0, 1, (.t 99)), (1, 1, (.t 100)), (2, 1, (.t 107)), (3, 1, (.t 110)), (4, 1, (.t 111))], none⟩,
  ⟨some 113, .lit 5 true [(.int .i64 (.ofNat 0)), (.int .i64 (.ofNat 0)), (.bool false), (.bool false), (.int .i64 (.ofNat 0))] 1 [(0, (.t 112))], none⟩,
  ⟨some 114, .appendH 5 true 32 (.t 98) (.t 113), none⟩,
  ⟨some 17, .mv (.t 114), none⟩]
@[simp] def f218r25 : List ROper := [
  ⟨some 115, .mv (.t 20), none⟩,
  ⟨some 19, .mv (.t 115), none⟩]
@[simp] def f218r26 : List ROper := [
  ⟨some 83, .mv (.t 18), none⟩,
  ⟨some 84, .bin .sub (.t 83) (.c (.int .i64 (.ofNat 1))), none⟩,
  ⟨some 18, .mv (.t 84), none⟩]
def f218B1 : RC := (.seq (.seq (.region f218r20 [1, 5, 10, 11, 13, 17, 18, 19, 82]) (.cond (.t 82) .skip (.exit 2))) (.seq (.block 3 (.seq (.region f218r21 [1, 5, 10, 11, 13, 17, 18, 19, 20]) (.seq (.region f218r22 [1, 5, 10, 11, 13, 17, 18, 19, 20, 21]) (.seq (.region f218r23 [1, 5, 10, 11, 13, 17, 18, 19, 20, 21, 22]) (.seq (.region f218r24 [1, 5, 10, 11, 13, 17, 18, 20]) (.region f218r25 [1, 5, 10, 11, 13, 17, 18, 19])))))) (.region f218r26 [1, 5, 10, 11, 13, 17, 18, 19])))
def f218L1 : RC := .loop [1, 5, 10, 11, 13, 17, 18, 19] f218B1
@[simp] def f218r27 : List ROper := [
  ⟨some 116, .mv (.t 17), none⟩,
  ⟨some 117, .call 249 [(.t 116)], none⟩]
@[simp] def f218r28 : List ROper := [
  ⟨some 118, .mv (.t 17), none⟩,
  ⟨some 119, .mv (.t 13), none⟩,
  ⟨some 6, .mv (.t 118), none⟩,
  ⟨some 7, .mv (.t 119), none⟩,
  ⟨some 8, .mv (.c (.int .i64 (.ofNat 0))), none⟩]
def f218 : RFunc := ⟨[.t 6, .t 7, .t 8], (.seq (.region f218r0 [0, 1, 5]) (.seq (.seq (.region f218r1 [0, 1, 5, 9]) (.seq (.region f218r2 [0, 1, 5, 9, 28]) (.cond (.t 28) (.seq (.region f218r3 [6, 7, 8]) .ret) .skip))) (.seq (.region f218r4 [0, 1, 5, 10]) (.seq (.region f218r5 [0, 1, 5, 10]) (.seq (.seq (.region f218r6 [0, 1, 5, 10, 38]) (.cond (.t 38) (.seq (.region f218r7 [6, 7, 8]) .ret) .skip)) (.seq (.region f218r8 [0, 1, 5, 10, 11]) (.seq (.region f218r9 [0, 1, 5, 10, 11, 12, 13]) (.seq (.seq (.region f218r10 [0, 1, 5, 10, 11, 12, 13, 14]) (.block 0 f218L0)) (.seq (.seq (.region f218r16 [0, 1, 5, 10, 11, 12, 13, 77]) (.cond (.t 77) (.seq (.region f218r17 [6, 7, 8]) .ret) .skip)) (.seq (.region f218r18 [0, 1, 5, 10, 11, 12, 13, 17]) (.seq (.seq (.region f218r19 [1, 5, 10, 11, 13, 17, 18, 19]) (.block 2 f218L1)) (.seq (.region f218r27 [13, 17]) (.seq (.region f218r28 [6, 7, 8]) .ret))))))))))))), true⟩

/-! quire/set.capital -/
@[simp] def f234r0 : List ROper := [
  ⟨some 2, .box 21 (.t 0), none⟩,
  ⟨some 4, .mv (.c (.int .i64 (.ofNat 0))), none⟩]
@[simp] def f234r1 : List ROper := [
  ⟨some 7, .faddr 2 (.t 2), none⟩,
  ⟨some 8, .faddr 14 (.t 7), none⟩,
  ⟨some 9, .load 1 false (.t 8), none⟩,
  ⟨some 10, .bin .lss (.t 9) (.c (.int .i64 (.ofNat 2))), none⟩,
  ⟨some 11, .mv (.t 10), none⟩,
  ⟨some 12, .mv (.t 1), some (11, false)⟩,
  ⟨some 13, .len .slice (.t 12), some (11, false)⟩,
  ⟨some 14, .bin .eql (.t 13) (.c (.int .i64 (.ofNat 0))), some (11, false)⟩,
  ⟨some 15, .pick (.t 11) (.c (.bool true)) (.t 14), none⟩,
  ⟨some 16, .mv (.t 15), none⟩,
  ⟨some 17, .mv (.t 1), some (16, false)⟩,
  ⟨some 18, .iaddr 6 (.t 17) (.c (.int .i64 (.ofNat 0))), some (16, false)⟩,
  ⟨some 19, .faddr 2 (.t 18), some (16, false)⟩,
  ⟨some 20, .load 1 false (.t 19), some (16, false)⟩,
  ⟨some 21, .bin .neq (.t 20) (.c (.int .i64 (.ofNat 1))), some (16, false)⟩,
  ⟨some 22, .pick (.t 16) (.c (.bool true)) (.t 21), none⟩]
@[simp] def f234r2 : List ROper := [
  ⟨some 4, .mv (.c (.int .i64 (.ofNat 0))), none⟩]
@[simp] def f234r3 : List ROper := [
  ⟨some 24, .faddr 0 (.t 2), none⟩,
  ⟨some 25, .load 1 false (.t 24), none⟩,
  ⟨some 26, .slice true 1 (.t 25) none (some (.c (.int .i64 (.ofNat 1)))) none, none⟩,
  ⟨some 27, .faddr 2 (.t 2), none⟩,
  ⟨some 28, .faddr 0 (.t 27), none⟩,
  ⟨some 29, .load 1 false (.t 28), none⟩,
  ⟨some 30, .faddr 2 (.t 2), none⟩,
  ⟨some 31, .faddr 14 (.t 30), none⟩,
  ⟨some 32, .load 1 false (.t 31), none⟩,
  ⟨some 33, .bin .mul (.t 29) (.t 32), none⟩,
  ⟨some 34, .min [(.t 33), (.c (.int .i64 (.ofNat 64)))], none⟩,
  ⟨some 35, .call 17 [(.t 26), (.t 34)], none⟩,
  ⟨some 23, .mv (.t 35), none⟩,
  ⟨some 36, .extract (.t 23) 0, none⟩,
  ⟨some 37, .extract (.t 23) 1, none⟩,
  ⟨some 5, .mv (.t 36), none⟩,
  ⟨some 6, .mv (.t 37), none⟩]
@[simp] def f234r4 : List ROper := [
  ⟨some 38, .mv (.t 5), none⟩,
  ⟨some 39, .bin .add (.t 38) (.c (.int .i64 (.ofNat 4))), none⟩,
  ⟨some 4, .mv (.t 39), none⟩]
def f234 : RFunc := ⟨[.t 4], (.seq (.region f234r0 [1, 2]) (.seq (.seq (.region f234r1 [2, 22]) (.cond (.t 22) (.seq (.region f234r2 [4]) .ret) .skip)) (.seq (.dregion f234r3 [] [] [5]) (.seq (.region f234r4 [4]) .ret)))), true⟩

/-! quire/least.wrong -/
@[simp] def f242r0 : List ROper := [
  ⟨some 5, .box 2 (.t 2), none⟩,
  ⟨some 6, .mv (.c (.int .i64 (.ofNat 0))), none⟩]
@[simp] def f242r1 : List ROper := [
  ⟨some 8, .mv (.t 0), none⟩,
  ⟨some 9, .call 109 [(.t 8)], none⟩,
  ⟨some 7, .mv (.t 9), none⟩]
@[simp] def f242r2 : List ROper := [
  ⟨some 10, .mv (.t 7), none⟩,
  ⟨some 11, .bin .eql (.t 10) (.c (.int .i64 (.ofNat 0))), none⟩]
@[simp] def f242r3 : List ROper := [
  ⟨some 12, .mv (.t 1), none⟩,
  ⟨some 13, .load 2 true (.t 5), none⟩,
  ⟨some 14, .call 126 [(.t 12), (.t 13)], none⟩,
  ⟨some 7, .mv (.t 14), none⟩]
@[simp] def f242r4 : List ROper := [
  ⟨some 15, .mv (.t 7), none⟩,
  ⟨some 16, .bin .eql (.t 15) (.c (.int .i64 (.ofNat 0))), none⟩,
  ⟨some 17, .mv (.t 16), none⟩,
  ⟨some 18, .mv (.t 0), some (17, true)⟩,
  ⟨some 19, .call 108 [(.t 18)], some (17, true)⟩,
  ⟨some 20, .pick (.t 17) (.t 19) (.c (.bool false)), none⟩]
@[simp] def f242r5 : List ROper := [
  ⟨some 7, .mv (.c (.int .i64 (.ofNat 9))), none⟩]
@[simp] def f242r6 : List ROper := [
  ⟨some 21, .mv (.t 7), none⟩,
  ⟨some 6, .mv (.t 21), none⟩]
def f242 : RFunc := ⟨[.t 6], (.seq (.region f242r0 [0, 1, 5]) (.seq (.region f242r1 [0, 1, 5, 7]) (.seq (.seq (.region f242r2 [0, 1, 5, 7, 11]) (.cond (.t 11) (.region f242r3 [0, 7]) .skip)) (.seq (.seq (.region f242r4 [7, 20]) (.cond (.t 20) (.region f242r5 [7]) .skip)) (.seq (.region f242r6 [6]) .ret))))), true⟩

/-! (*quire/least.setter).prepare -/
@[simp] def f243r0 : List ROper := [
  ⟨some 6, .mv (.t 0), none⟩,
  ⟨some 7, .nilchk (.t 6), none⟩,
  ⟨some 8, .faddr 0 (.t 7), none⟩,
  ⟨some 9, .load 1 false (.t 8), none⟩,
  ⟨some 10, .len .slice (.t 9), none⟩,
  ⟨some 2, .mv (.t 10), none⟩]
@[simp] def f243r1 : List ROper := [
  ⟨some 11, .mv (.t 0), none⟩,
  ⟨some 12, .mv (.t 0), none⟩,
  ⟨some 13, .mv (.t 0), none⟩,
  ⟨some 14, .mv (.t 0), none⟩,
  ⟨some 15, .mv (.t 2), none⟩,
  ⟨some 16, .bin .add (.t 15) (.c (.int .i64 (.ofNat 1))), none⟩,
  ⟨some 17, .mkslice 1 false 8 [(.int .i64 (.ofNat 0))] (.t 16) (.t 16), none⟩,
  ⟨some 18, .mv (.t 2), none⟩,
  ⟨some 19, .bin .add (.t 18) (.c (.int .i64 (.ofNat 1))), none⟩,
  ⟨some 20, .mkslice 1 false 8 [(.int .i64 (.ofNat 0))] (.t 19) (.t 19), none⟩,
  ⟨some 21, .mv (.t 2), none⟩,
  ⟨some 22, .bin .add (.t 21) (.c (.int .i64 (.ofNat 1))), none⟩,
  ⟨some 23, .mkslice 1 false 8 [(.int .i64 (.ofNat 0))] (.t 22) (.t 22), none⟩,
  ⟨some 24, .mv (.t 2), none⟩,
  ⟨some 25, .bin .add (.t 24) (.c (.int .i64 (.ofNat 1))), none⟩,
  ⟨some 26, .mkslice 1 false 8 [(.int .i64 (.ofNat 0))] (.t 25) (.t 25), none⟩,
  ⟨some 27, .nilchk (.t 11), none⟩,
  ⟨some 28, .faddr 4 (.t 27), none⟩,
  ⟨none, .store 1 (.t 28) (.t 17), none⟩,
  ⟨some 29, .nilchk (.t 12), none⟩,
  ⟨some 30, .faddr 5 (.t 29), none⟩,
  ⟨none, .store 1 (.t 30) (.t 20), none⟩,
  ⟨some 31, .nilchk (.t 13), none⟩,
  ⟨some 32, .faddr 6 (.t 31), none⟩,
  ⟨none, .store 1 (.t 32) (.t 23), none⟩,
  ⟨some 33, .nilchk (.t 14), none⟩,
  ⟨some 34, .faddr 7 (.t 33), none⟩,
  ⟨none, .store 1 (.t 34) (.t 26), none⟩]
@[simp] def f243r2 : List ROper := [
  ⟨some 35, .mv (.t 0), none⟩,
  ⟨some 36, .nilchk (.t 35), none⟩,
  ⟨some 37, .faddr 0 (.t 36), none⟩,
  ⟨some 38, .load 1 false (.t 37), none⟩,
  ⟨some 39, .len .slice (.t 38), none⟩,
  ⟨some 40, .mv (.c (.int .i64 (.ofNat 0))), none⟩]
@[simp] def f243r3 : List ROper := [
  ⟨some 41, .bin .lss (.t 40) (.t 39), none⟩]
@[simp] def f243r4 : List ROper := [
  ⟨some 42, .mv (.t 40), none⟩,
  ⟨some 43, .iaddr 8 (.t 38) (.t 40), none⟩,
  ⟨some 44, .load 8 true (.t 43), none⟩,
  ⟨some 4, .alloc [(.int .i64 (.ofNat 0)), (.int .i64 (.ofNat 0)), (.int .i64 (.ofNat 0)), (.int .i64 (.ofNat 0)), (.int .i64 (.ofNat 0)), (.int .i64 (.ofNat 0)), (.int .i64 (.ofNat 0)), (.bool false)], none⟩,
  ⟨some 3, .mv (.t 42), none⟩,
  ⟨none, .store 8 (.t 4) (.t 44), none⟩]
@[simp] def f243r5 : List ROper := [
  ⟨some 45, .faddr 3 (.t 4), none⟩,
  ⟨some 46, .load 1 false (.t 45), none⟩,
  ⟨some 5, .mv (.t 46), none⟩]
@[simp] def f243r6 : List ROper := [
  ⟨some 47, .faddr 0 (.t 4), none⟩,
  ⟨some 48, .load 1 false (.t 47), none⟩,
  ⟨some 49, .bin .eql (.t 48) (.c (.int .i64 (.ofNat 3))), none⟩]
@[simp] def f243r7 : List ROper := [
  ⟨some 5, .mv (.c (.int .i64 (.ofNat 0))), none⟩]
@[simp] def f243r8 : List ROper := [
  ⟨some 50, .mv (.t 0), none⟩,
  ⟨some 51, .nilchk (.t 50), none⟩,
  ⟨some 52, .faddr 4 (.t 51), none⟩,
  ⟨some 53, .load 1 false (.t 52), none⟩,
  ⟨some 54, .mv (.t 3), none⟩,
  ⟨some 55, .bin .add (.t 54) (.c (.int .i64 (.ofNat 1))), none⟩,
  ⟨some 56, .mv (.t 0), none⟩,
  ⟨some 57, .nilchk (.t 56), none⟩,
  ⟨some 58, .faddr 5 (.t 57), none⟩,
  ⟨some 59, .load 1 false (.t 58), none⟩,
  ⟨some 60, .mv (.t 3), none⟩,
  ⟨some 61, .bin .add (.t 60) (.c (.int .i64 (.ofNat 1))), none⟩,
  ⟨some 62, .mv (.t 0), none⟩,
  ⟨some 63, .nilchk (.t 62), none⟩,
  ⟨some 64, .faddr 6 (.t 63), none⟩,
  ⟨some 65, .load 1 false (.t 64), none⟩,
  ⟨some 66, .mv (.t 3), none⟩,
  ⟨some 67, .bin .add (.t 66) (.c (.int .i64 (.ofNat 1))), none⟩,
  ⟨some 68, .mv (.t 0), none⟩,
  ⟨some 69, .nilchk (.t 68), none⟩,
  ⟨some 70, .faddr 4 (.t 69), none⟩,
  ⟨some 71, .load 1 false (.t 70), none⟩,
  ⟨some 72, .mv (.t 3), none⟩,
  ⟨some 73, .iaddr 1 (.t 71) (.t 72), none⟩,
  ⟨some 74, .load 1 false (.t 73), none⟩,
  ⟨some 75, .mv (.t 5), none⟩,
  ⟨some 76, .bin .add (.t 74) (.t 75), none⟩,
  ⟨some 77, .mv (.t 0), none⟩,
  ⟨some 78, .nilchk (.t 77), none⟩,
  ⟨some 79, .faddr 5 (.t 78), none⟩,
  ⟨some 80, .load 1 false (.t 79), none⟩,
  ⟨some 81, .mv (.t 3), none⟩,
  ⟨some 82, .iaddr 1 (.t 80) (.t 81), none⟩,
  ⟨some 83, .load 1 false (.t 82), none⟩,
  ⟨some 84, .faddr 4 (.t 4), none⟩,
  ⟨some 85, .load 1 false (.t 84), none⟩,
  ⟨some 86, .bin .add (.t 83) (.t 85), none⟩,
  ⟨some 87, .mv (.t 0), none⟩,
  ⟨some 88, .nilchk (.t 87), none⟩,
  ⟨some 89, .faddr 6 (.t 88), none⟩,
  ⟨some 90, .load 1 false (.t 89), none⟩,
  ⟨some 91, .mv (.t 3), none⟩,
  ⟨some 92, .iaddr 1 (.t 90) (.t 91), none⟩,
  ⟨some 93, .load 1 false (.t 92), none⟩,
  ⟨some 94, .faddr 5 (.t 4), none⟩,
  ⟨some 95, .load 1 false (.t 94), none⟩,
  ⟨some 96, .bin .add (.t 93) (.t 95), none⟩,
  ⟨some 97, .iaddr 1 (.t 53) (.t 55), none⟩,
  ⟨none, .store 1 (.t 97) (.t 76), none⟩,
  ⟨some 98, .iaddr 1 (.t 59) (.t 61), none⟩,
  ⟨none, .store 1 (.t 98) (.t 86), none⟩,
  ⟨some 99, .iaddr 1 (.t 65) (.t 67), none⟩,
  ⟨none, .store 1 (.t 99) (.t 96), none⟩]
@[simp] def f243r9 : List ROper := [
  ⟨some 100, .mv (.t 0), none⟩,
  ⟨some 101, .nilchk (.t 100), none⟩,
  ⟨some 102, .faddr 7 (.t 101), none⟩,
  ⟨some 103, .load 1 false (.t 102), none⟩,
  ⟨some 104, .mv (.t 3), none⟩,
  ⟨some 105, .bin .add (.t 104) (.c (.int .i64 (.ofNat 1))), none⟩,
  ⟨some 106, .mv (.t 3), none⟩,
  ⟨some 107, .bin .add (.t 106) (.c (.int .i64 (.ofNat 1))), none⟩,
  ⟨some 108, .iaddr 1 (.t 103) (.t 105), none⟩,
  ⟨none, .store 1 (.t 108) (.t 107), none⟩]
@[simp] def f243r10 : List ROper := [
  ⟨some 109, .faddr 0 (.t 4), none⟩,
  ⟨some 110, .load 1 false (.t 109), none⟩,
  ⟨some 111, .bin .eql (.t 110) (.c (.int .i64 (.ofNat 2))), none⟩]
@[simp] def f243r11 : List ROper := [
  ⟨some 112, .mv (.t 0), none⟩,
  ⟨some 113, .nilchk (.t 112), none⟩,
  ⟨some 114, .faddr 7 (.t 113), none⟩,
  ⟨some 115, .load 1 false (.t 114), none⟩,
  ⟨some 116, .mv (.t 3), none⟩,
  ⟨some 117, .bin .add (.t 116) (.c (.int .i64 (.ofNat 1))), none⟩,
  ⟨some 118, .mv (.t 0), none⟩,
  ⟨some 119, .nilchk (.t 118), none⟩,
  ⟨some 120, .faddr 7 (.t 119), none⟩,
  ⟨some 121, .load 1 false (.t 120), none⟩,
  ⟨some 122, .mv (.t 3), none⟩,
  ⟨some 123, .iaddr 1 (.t 121) (.t 122), none⟩,
  ⟨some 124, .load 1 false (.t 123), none⟩,
  ⟨some 125, .iaddr 1 (.t 115) (.t 117), none⟩,
  ⟨none, .store 1 (.t 125) (.t 124), none⟩]
@[simp] def f243r12 : List ROper := [
  ⟨some 126, .bin .add (.t 40) (.c (.int .i64 (.ofNat 1))), none⟩,
  ⟨some 40, .mv (.t 126), none⟩]
def f243B0 : RC := (.seq (.region f243r3 [0, 38, 39, 40, 41]) (.seq (.cond (.t 41) .skip (.exit 0)) (.seq (.block 1 (.seq (.region f243r4 [0, 3, 4, 38, 39, 40]) (.seq (.region f243r5 [0, 3, 4, 5, 38, 39, 40]) (.seq (.seq (.region f243r6 [0, 3, 4, 5, 38, 39, 40, 49]) (.cond (.t 49) (.region f243r7 [0, 3, 4, 5, 38, 39, 40]) .skip)) (.seq (.dregion f243r8 [] [(35, [1]), (45, [1, 2])] [0, 3, 4, 38, 39, 40]) (.seq (.region f243r9 [0, 3, 4, 38, 39, 40]) (.seq (.region f243r10 [0, 3, 38, 39, 40, 111]) (.cond (.t 111) (.dregion f243r11 [] [] [0, 38, 39, 40]) .skip)))))))) (.region f243r12 [0, 38, 39, 40]))))
def f243L0 : RC := .loop [0, 38, 39, 40] f243B0
def f243 : RFunc := ⟨[], (.seq (.region f243r0 [0, 2]) (.seq (.dregion f243r1 [6, 9, 12, 15] [] [0]) (.seq (.region f243r2 [0, 38, 39, 40]) (.block 0 f243L0)))), false⟩

/-! (*quire/least.setter).empty -/
@[simp] def f244r0 : List ROper := [
  ⟨some 2, .mv (.c (.bool false)), none⟩]
@[simp] def f244r1 : List ROper := [
  ⟨some 3, .mv (.t 0), none⟩,
  ⟨some 4, .call 246 [(.t 3), (.c (.int .i64 (.negSucc 0)))], none⟩,
  ⟨some 5, .mv (.t 0), none⟩,
  ⟨some 6, .nilchk (.t 5), none⟩,
  ⟨some 7, .faddr 0 (.t 6), none⟩,
  ⟨some 8, .load 1 false (.t 7), none⟩,
  ⟨some 9, .len .slice (.t 8), none⟩,
  ⟨some 10, .bin .eql (.t 4) (.t 9), none⟩,
  ⟨some 2, .mv (.t 10), none⟩]
def f244 : RFunc := ⟨[.t 2], (.seq (.region f244r0 [0]) (.seq (.dregion f244r1 [] [(5, [0]), (6, [0])] [2]) .ret)), false⟩

/-! (*quire/least.setter).ways -/
@[simp] def f245r0 : List ROper := [
  ⟨some 1, .box 1 (.t 0), none⟩,
  ⟨some 2, .mv (.c .nilmap), none⟩]
@[simp] def f245r1 : List ROper := [
  ⟨some 17, .mkmap, none⟩,
  ⟨some 3, .mv (.t 17), none⟩]
@[simp] def f245r2 : List ROper := [
  ⟨some 18, .load 1 false (.t 1), none⟩,
  ⟨some 19, .call 265 [(.t 18)], none⟩,
  ⟨some 4, .mv (.t 19), none⟩]
@[simp] def f245r3 : List ROper := [
  ⟨some 20, .lit 1 false [(.int .i64 (.ofNat 0))] 1 [(0, (.c (.int .i64 (.negSucc 0))))], none⟩,
  ⟨some 5, .mv (.t 20), none⟩]
@[simp] def f245r4 : List ROper := [
  ⟨some 6, .mv (.c (.int .i64 (.ofNat 0))), none⟩]
@[simp] def f245r5 : List ROper := [
  ⟨some 21, .mv (.t 5), none⟩,
  ⟨some 22, .len .slice (.t 21), none⟩,
  ⟨some 23, .bin .gtr (.t 22) (.c (.int .i64 (.ofNat 0))), none⟩]
@[simp] def f245r6 : List ROper := [
  ⟨some 7, .mv (.c (.list 0 0 .no false [])), none⟩]
@[simp] def f245r7 : List ROper := [
  ⟨some 26, .mv (.t 5), none⟩,
  ⟨some 27, .len .slice (.t 26), none⟩,
  ⟨some 28, .mv (.c (.int .i64 (.ofNat 0))), none⟩]
@[simp] def f245r8 : List ROper := [
  ⟨some 29, .bin .lss (.t 28) (.t 27), none⟩]
@[simp] def f245r9 : List ROper := [
  ⟨some 30, .iaddr 1 (.t 26) (.t 28), none⟩,
  ⟨some 31, .load 1 false (.t 30), none⟩,
  ⟨some 9, .mv (.t 31), none⟩]
@[simp] def f245r10 : List ROper := [
  ⟨some 32, .load 1 false (.t 1), none⟩,
  ⟨some 33, .mv (.t 9), none⟩,
  ⟨some 34, .call 246 [(.t 32), (.t 33)], none⟩,
  ⟨some 10, .mv (.t 34), none⟩]
@[simp] def f245r11 : List ROper := [
  ⟨some 35, .mv (.t 9), none⟩,
  ⟨some 36, .bin .add (.t 35) (.c (.int .i64 (.ofNat 1))), none⟩,
  ⟨some 11, .mv (.t 36), none⟩]
@[simp] def f245r12 : List ROper := [
  ⟨some 37, .mv (.t 11), none⟩,
  ⟨some 38, .load 1 false (.t 1), none⟩,
  ⟨some 39, .nilchk (.t 38), none⟩,
  ⟨some 40, .faddr 0 (.t 39), none⟩,
  ⟨some 41, .load 1 false (.t 40), none⟩,
  ⟨some 42, .len .slice (.t 41), none⟩,
  ⟨some 43, .bin .leq (.t 37) (.t 42), none⟩]
@[simp] def f245r13 : List ROper := [
  ⟨some 46, .mv (.t 4), none⟩,
  ⟨some 47, .mv (.t 46), none⟩,
  ⟨some 48, .mv (.t 11), some (47, true)⟩,
  ⟨some 49, .mv (.t 10), some (47, true)⟩,
  ⟨some 50, .bin .gtr (.t 48) (.t 49), some (47, true)⟩,
  ⟨some 51, .pick (.t 47) (.t 50) (.c (.bool false)), none⟩,
  ⟨some 52, .mv (.t 51), none⟩,
  ⟨some 53, .load 1 false (.t 1), some (52, true)⟩,
  ⟨some 54, .mv (.t 10), some (52, true)⟩,
  ⟨some 55, .mv (.t 11), some (52, true)⟩,
  ⟨some 56, .mv (.t 6), some (52, true)⟩,
  ⟨some 57, .call 266 [(.t 53), (.t 54), (.t 55), (.t 56)], some (52, true)⟩,
  ⟨some 58, .pick (.t 52) (.t 57) (.c (.bool false)), none⟩]
@[simp] def f245r14 : List ROper := [
  ⟨some 59, .load 1 false (.t 1), none⟩,
  ⟨some 60, .mv (.t 9), none⟩,
  ⟨some 61, .mv (.t 11), none⟩,
  ⟨some 62, .call 267 [(.t 59), (.t 60), (.t 61)], none⟩,
  ⟨some 63, .un .not (.t 62), none⟩]
@[simp] def f245r15 : List ROper := [
  ⟨some 65, .load 1 false (.t 1), none⟩,
  ⟨some 66, .mv (.t 9), none⟩,
  ⟨some 67, .mv (.t 11), none⟩,
  ⟨some 68, .mv (.t 6), none⟩,
  ⟨some 69, .call 268 [(.t 65), (.t 66), (.t 67), (.t 68)], none⟩,
  ⟨some 64, .mv (.t 69), none⟩,
  ⟨some 70, .extract (.t 64) 0, none⟩,
  ⟨some 71, .extract (.t 64) 1, none⟩,
  ⟨some 12, .mv (.t 70), none⟩,
  ⟨some 13, .mv (.t 71), none⟩]
@[simp] def f245r16 : List ROper := [
  ⟨some 72, .mv (.t 13), none⟩,
  ⟨some 73, .un .not (.t 72), none⟩]
@[simp] def f245r17 : List ROper := [
  ⟨some 74, .mv (.t 3), none⟩,
  ⟨some 75, .mv (.t 9), none⟩,
  ⟨some 76, .mv (.t 6), none⟩,
  ⟨some 77, .bin .sub (.t 76) (.c (.int .i64 (.ofNat 1))), none⟩,
  ⟨some 78, .build [(.int .i64 (.ofNat 0)), (.int .i64 (.ofNat 0))] [(0, 1, (.t 75)), (1, 1, (.t 77))], none⟩,
  ⟨some 79, .lookup [.int, .int] (.agg [(.int .i64 (.ofNat 0)), (.int .i64 (.ofNat 0))]) (.t 74) (.t 78) false, none⟩,
  ⟨some 80, .field 1 false 0 (.t 79), none⟩,
  ⟨some 81, .mv (.t 12), none⟩,
  ⟨some 82, .bin .add (.t 80) (.t 81), none⟩,
  ⟨some 83, .mv (.t 9), none⟩,
  ⟨some 84, .build [(.int .i64 (.ofNat 0)), (.int .i64 (.ofNat 0))] [(0, 1, (.t 82)), (1, 1, (.t 83))], none⟩,
  ⟨some 14, .alloc [(.int .i64 (.ofNat 0)), (.int .i64 (.ofNat 0))], none⟩,
  ⟨none, .store 2 (.t 14) (.t 84), none⟩]
@[simp] def f245r18 : List ROper := [
  ⟨some 86, .mv (.t 3), none⟩,
  ⟨some 87, .mv (.t 11), none⟩,
  ⟨some 88, .mv (.t 6), none⟩,
  ⟨some 89, .build [(.int .i64 (.ofNat 0)), (.int .i64 (.ofNat 0))] [(0, 1, (.t 87)), (1, 1, (.t 88))], none⟩,
  ⟨some 90, .lookup [.int, .int] (.agg [(.int .i64 (.ofNat 0)), (.int .i64 (.ofNat 0))]) (.t 86) (.t 89) true, none⟩,
  ⟨some 85, .mv (.t 90), none⟩,
  ⟨some 91, .extract (.t 85) 0, none⟩,
  ⟨some 92, .extract (.t 85) 1, none⟩,
  ⟨some 15, .alloc [(.int .i64 (.ofNat 0)), (.int .i64 (.ofNat 0))], none⟩,
  ⟨none, .store 2 (.t 15) (.t 91), none⟩,
  ⟨some 16, .mv (.t 92), none⟩]
@[simp] def f245r19 : List ROper := [
  ⟨some 93, .mv (.t 16), none⟩,
  ⟨some 94, .un .not (.t 93), none⟩]
@[simp] def f245r20 : List ROper := [
  ⟨some 95, .mv (.t 7), none⟩,
  ⟨some 96, .mv (.t 11), none⟩,
  ⟨some 97, .lit 1 false [(.int .i64 (.ofNat 0))] 1 [(0, (.t 96))], none⟩,
  ⟨some 98, .appendH 1 false 8 (.t 95) (.t 97), none⟩,
  ⟨some 7, .mv (.t 98), none⟩]
@[simp] def f245r21 : List ROper := [
  ⟨some 99, .mv (.t 16), none⟩,
  ⟨some 100, .un .not (.t 99), none⟩,
  ⟨some 101, .mv (.t 100), none⟩,
  ⟨some 102, .faddr 0 (.t 14), some (101, false)⟩,
  ⟨some 103, .load 1 false (.t 102), some (101, false)⟩,
  ⟨some 104, .faddr 0 (.t 15), some (101, false)⟩,
  ⟨some 105, .load 1 false (.t 104), some (101, false)⟩,
  ⟨some 106, .call 155 [(.t 103), (.t 105)], some (101, false)⟩,
  ⟨some 107, .faddr 1 (.t 14), some (101, false)⟩,
  ⟨some 108, .load 1 false (.t 107), some (101, false)⟩,
  ⟨some 109, .faddr 1 (.t 15), some (101, false)⟩,
  ⟨some 110, .load 1 false (.t 109), some (101, false)⟩,
  ⟨some 111, .call 155 [(.t 108), (.t 110)], some (101, false)⟩,
  ⟨some 112, .lit 1 false [(.int .i64 (.ofNat 0))] 2 [(0, (.t 106)), (1, (.t 111))], some (101, false)⟩,
  ⟨some 113, .call 269 [(.t 112)], some (101, false)⟩,
  ⟨some 114, .bin .lss (.t 113) (.c (.int .i64 (.ofNat 0))), some (101, false)⟩,
  ⟨some 115, .pick (.t 101) (.c (.bool true)) (.t 114), none⟩]
@[simp] def f245r22 : List ROper := [
  ⟨some 116, .mv (.t 3), none⟩,
  ⟨some 117, .mv (.t 11), none⟩,
  ⟨some 118, .mv (.t 6), none⟩,
  ⟨some 119, .build [(.int .i64 (.ofNat 0)), (.int .i64 (.ofNat 0))] [(0, 1, (.t 117)), (1, 1, (.t 118))], none⟩,
  ⟨some 120, .load 2 true (.t 14), none⟩,
  ⟨none, .mapset [.int, .int] (.t 116) (.t 119) (.t 120), none⟩]
@[simp] def f245r23 : List ROper := [
  ⟨some 44, .mv (.t 11), none⟩,
  ⟨some 45, .bin .add (.t 44) (.c (.int .i64 (.ofNat 1))), none⟩,
  ⟨some 11, .mv (.t 45), none⟩]
def f245B0 : RC := (.seq (.seq (.region f245r12 [1, 3, 4, 6, 7, 9, 10, 11, 26, 27, 28, 43]) (.cond (.t 43) .skip (.exit 4))) (.seq (.block 5 (.seq (.seq (.region f245r13 [1, 3, 4, 6, 7, 9, 10, 11, 26, 27, 28, 58]) (.cond (.t 58) (.exit 4) .skip)) (.seq (.seq (.region f245r14 [1, 3, 4, 6, 7, 9, 10, 11, 26, 27, 28, 63]) (.cond (.t 63) (.exit 5) .skip)) (.seq (.region f245r15 [1, 3, 4, 6, 7, 9, 10, 11, 12, 13, 26, 27, 28]) (.seq (.seq (.region f245r16 [1, 3, 4, 6, 7, 9, 10, 11, 12, 26, 27, 28, 73]) (.cond (.t 73) (.exit 5) .skip)) (.seq (.region f245r17 [1, 3, 4, 6, 7, 9, 10, 11, 14, 26, 27, 28]) (.seq (.region f245r18 [1, 3, 4, 6, 7, 9, 10, 11, 14, 15, 16, 26, 27, 28]) (.seq (.seq (.region f245r19 [1, 3, 4, 6, 7, 9, 10, 11, 14, 15, 16, 26, 27, 28, 94]) (.cond (.t 94) (.region f245r20 [1, 3, 4, 6, 7, 9, 10, 11, 14, 15, 16, 26, 27, 28]) .skip)) (.seq (.dregion f245r21 [] [] [1, 3, 4, 6, 7, 9, 10, 11, 14, 26, 27, 28, 115]) (.cond (.t 115) (.region f245r22 [1, 3, 4, 6, 7, 9, 10, 11, 26, 27, 28]) .skip)))))))))) (.region f245r23 [1, 3, 4, 6, 7, 9, 10, 11, 26, 27, 28])))
def f245L0 : RC := .loop [1, 3, 4, 6, 7, 9, 10, 11, 26, 27, 28] f245B0
@[simp] def f245r24 : List ROper := [
  ⟨some 121, .bin .add (.t 28) (.c (.int .i64 (.ofNat 1))), none⟩,
  ⟨some 28, .mv (.t 121), none⟩]
def f245B1 : RC := (.seq (.region f245r8 [1, 3, 4, 6, 7, 26, 27, 28, 29]) (.seq (.cond (.t 29) .skip (.exit 2)) (.seq (.block 3 (.seq (.region f245r9 [1, 3, 4, 6, 7, 9, 26, 27, 28]) (.seq (.region f245r10 [1, 3, 4, 6, 7, 9, 10, 26, 27, 28]) (.seq (.region f245r11 [1, 3, 4, 6, 7, 9, 10, 11, 26, 27, 28]) (.block 4 f245L0))))) (.region f245r24 [1, 3, 4, 6, 7, 26, 27, 28]))))
def f245L1 : RC := .loop [1, 3, 4, 6, 7, 26, 27, 28] f245B1
@[simp] def f245r25 : List ROper := [
  ⟨some 122, .mv (.t 7), none⟩,
  ⟨some 123, .mkfn 271 [] [(.t 1)], none⟩,
  ⟨some 124, .call 270 [(.t 122), (.t 123)], none⟩,
  ⟨some 5, .mv (.t 124), none⟩]
@[simp] def f245r26 : List ROper := [
  ⟨some 125, .mv (.t 5), none⟩,
  ⟨some 126, .call 272 [(.t 125)], none⟩]
@[simp] def f245r27 : List ROper := [
  ⟨some 24, .mv (.t 6), none⟩,
  ⟨some 25, .bin .add (.t 24) (.c (.int .i64 (.ofNat 1))), none⟩,
  ⟨some 6, .mv (.t 25), none⟩]
def f245B2 : RC := (.seq (.seq (.region f245r5 [1, 3, 4, 5, 6, 23]) (.cond (.t 23) .skip (.exit 0))) (.seq (.block 1 (.seq (.region f245r6 [1, 3, 4, 5, 6, 7]) (.seq (.seq (.region f245r7 [1, 3, 4, 6, 7, 26, 27, 28]) (.block 2 f245L1)) (.seq (.region f245r25 [1, 3, 4, 5, 6]) (.region f245r26 [1, 3, 4, 5, 6]))))) (.region f245r27 [1, 3, 4, 5, 6])))
def f245L2 : RC := .loop [1, 3, 4, 5, 6] f245B2
@[simp] def f245r28 : List ROper := [
  ⟨some 127, .mv (.t 3), none⟩,
  ⟨some 2, .mv (.t 127), none⟩]
def f245 : RFunc := ⟨[.t 2], (.seq (.region f245r0 [1]) (.seq (.region f245r1 [1, 3]) (.seq (.region f245r2 [1, 3, 4]) (.seq (.region f245r3 [1, 3, 4, 5]) (.seq (.seq (.region f245r4 [1, 3, 4, 5, 6]) (.block 0 f245L2)) (.seq (.region f245r28 [2]) .ret)))))), false⟩

/-! (*quire/least.setter).start -/
@[simp] def f246r0 : List ROper := [
  ⟨some 4, .mv (.c (.int .i64 (.ofNat 0))), none⟩]
@[simp] def f246r1 : List ROper := [
  ⟨some 5, .mv (.t 1), none⟩,
  ⟨some 6, .bin .lss (.t 5) (.c (.int .i64 (.ofNat 0))), none⟩]
@[simp] def f246r2 : List ROper := [
  ⟨some 1, .mv (.c (.int .i64 (.ofNat 0))), none⟩]
@[simp] def f246r3 : List ROper := [
  ⟨some 7, .mv (.t 1), none⟩,
  ⟨some 8, .mv (.t 0), none⟩,
  ⟨some 9, .nilchk (.t 8), none⟩,
  ⟨some 10, .faddr 0 (.t 9), none⟩,
  ⟨some 11, .load 1 false (.t 10), none⟩,
  ⟨some 12, .len .slice (.t 11), none⟩,
  ⟨some 13, .bin .lss (.t 7) (.t 12), none⟩,
  ⟨some 14, .mv (.t 13), none⟩,
  ⟨some 15, .mv (.t 0), some (14, true)⟩,
  ⟨some 16, .nilchk (.t 15), some (14, true)⟩,
  ⟨some 17, .faddr 0 (.t 16), some (14, true)⟩,
  ⟨some 18, .load 1 false (.t 17), some (14, true)⟩,
  ⟨some 19, .mv (.t 1), some (14, true)⟩,
  ⟨some 20, .iaddr 8 (.t 18) (.t 19), some (14, true)⟩,
  ⟨some 21, .faddr 0 (.t 20), some (14, true)⟩,
  ⟨some 22, .load 1 false (.t 21), some (14, true)⟩,
  ⟨some 23, .bin .eql (.t 22) (.c (.int .i64 (.ofNat 3))), some (14, true)⟩,
  ⟨some 24, .pick (.t 14) (.t 23) (.c (.bool false)), none⟩]
@[simp] def f246r4 : List ROper := [
  ⟨some 25, .mv (.t 1), none⟩,
  ⟨some 26, .bin .add (.t 25) (.c (.int .i64 (.ofNat 1))), none⟩,
  ⟨some 1, .mv (.t 26), none⟩]
@[simp] def f246r5 : List ROper := [
  ⟨some 27, .mv (.t 1), none⟩,
  ⟨some 28, .mv (.t 0), none⟩,
  ⟨some 29, .nilchk (.t 28), none⟩,
  ⟨some 30, .faddr 0 (.t 29), none⟩,
  ⟨some 31, .load 1 false (.t 30), none⟩,
  ⟨some 32, .len .slice (.t 31), none⟩,
  ⟨some 33, .bin .lss (.t 27) (.t 32), none⟩,
  ⟨some 34, .mv (.t 33), none⟩,
  ⟨some 35, .mv (.t 0), some (34, true)⟩,
  ⟨some 36, .nilchk (.t 35), some (34, true)⟩,
  ⟨some 37, .faddr 0 (.t 36), some (34, true)⟩,
  ⟨some 38, .load 1 false (.t 37), some (34, true)⟩,
  ⟨some 39, .mv (.t 1), some (34, true)⟩,
  ⟨some 40, .iaddr 8 (.t 38) (.t 39), some (34, true)⟩,
  ⟨some 41, .faddr 0 (.t 40), some (34, true)⟩,
  ⟨some 42, .load 1 false (.t 41), some (34, true)⟩,
  ⟨some 43, .bin .eql (.t 42) (.c (.int .i64 (.ofNat 2))), some (34, true)⟩,
  ⟨some 44, .pick (.t 34) (.t 43) (.c (.bool false)), none⟩]
@[simp] def f246r6 : List ROper := [
  ⟨some 45, .mv (.t 1), none⟩,
  ⟨some 46, .bin .add (.t 45) (.c (.int .i64 (.ofNat 1))), none⟩,
  ⟨some 1, .mv (.t 46), none⟩]
def f246B0 : RC := (.seq (.seq (.region f246r5 [0, 1, 44]) (.cond (.t 44) .skip (.exit 0))) (.block 1 (.region f246r6 [0, 1])))
def f246L0 : RC := .loop [0, 1] f246B0
@[simp] def f246r7 : List ROper := [
  ⟨some 47, .mv (.t 1), none⟩,
  ⟨some 4, .mv (.t 47), none⟩]
def f246 : RFunc := ⟨[.t 4], (.seq (.region f246r0 [0, 1]) (.seq (.seq (.region f246r1 [0, 1, 6]) (.cond (.t 6) (.region f246r2 [0, 1]) (.seq (.region f246r3 [0, 1, 24]) (.cond (.t 24) (.region f246r4 [0, 1]) .skip)))) (.seq (.block 0 f246L0) (.seq (.region f246r7 [4]) .ret)))), false⟩

/-! (*quire/least.setter).natural -/
@[simp] def f247r0 : List ROper := [
  ⟨some 6, .mv (.c (.int .i64 (.ofNat 0))), none⟩]
@[simp] def f247r1 : List ROper := [
  ⟨some 8, .mv (.t 0), none⟩,
  ⟨some 9, .nilchk (.t 8), none⟩,
  ⟨some 10, .faddr 4 (.t 9), none⟩,
  ⟨some 11, .load 1 false (.t 10), none⟩,
  ⟨some 12, .mv (.t 0), none⟩,
  ⟨some 13, .nilchk (.t 12), none⟩,
  ⟨some 14, .faddr 7 (.t 13), none⟩,
  ⟨some 15, .load 1 false (.t 14), none⟩,
  ⟨some 16, .mv (.t 2), none⟩,
  ⟨some 17, .iaddr 1 (.t 15) (.t 16), none⟩,
  ⟨some 18, .load 1 false (.t 17), none⟩,
  ⟨some 19, .mv (.t 1), none⟩,
  ⟨some 20, .max [(.t 18), (.t 19)], none⟩,
  ⟨some 21, .iaddr 1 (.t 11) (.t 20), none⟩,
  ⟨some 22, .load 1 false (.t 21), none⟩,
  ⟨some 23, .mv (.t 0), none⟩,
  ⟨some 24, .nilchk (.t 23), none⟩,
  ⟨some 25, .faddr 4 (.t 24), none⟩,
  ⟨some 26, .load 1 false (.t 25), none⟩,
  ⟨some 27, .mv (.t 1), none⟩,
  ⟨some 28, .iaddr 1 (.t 26) (.t 27), none⟩,
  ⟨some 29, .load 1 false (.t 28), none⟩,
  ⟨some 30, .bin .sub (.t 22) (.t 29), none⟩,
  ⟨some 7, .mv (.t 30), none⟩]
@[simp] def f247r2 : List ROper := [
  ⟨some 31, .mv (.t 2), none⟩,
  ⟨some 32, .mv (.t 0), none⟩,
  ⟨some 33, .nilchk (.t 32), none⟩,
  ⟨some 34, .faddr 0 (.t 33), none⟩,
  ⟨some 35, .load 1 false (.t 34), none⟩,
  ⟨some 36, .len .slice (.t 35), none⟩,
  ⟨some 37, .bin .lss (.t 31) (.t 36), none⟩,
  ⟨some 38, .mv (.t 37), none⟩,
  ⟨some 39, .mv (.t 0), some (38, true)⟩,
  ⟨some 40, .nilchk (.t 39), some (38, true)⟩,
  ⟨some 41, .faddr 0 (.t 40), some (38, true)⟩,
  ⟨some 42, .load 1 false (.t 41), some (38, true)⟩,
  ⟨some 43, .mv (.t 2), some (38, true)⟩,
  ⟨some 44, .iaddr 8 (.t 42) (.t 43), some (38, true)⟩,
  ⟨some 45, .faddr 0 (.t 44), some (38, true)⟩,
  ⟨some 46, .load 1 false (.t 45), some (38, true)⟩,
  ⟨some 47, .bin .eql (.t 46) (.c (.int .i64 (.ofNat 3))), some (38, true)⟩,
  ⟨some 48, .pick (.t 38) (.t 47) (.c (.bool false)), none⟩]
@[simp] def f247r3 : List ROper := [
  ⟨some 49, .mv (.t 7), none⟩,
  ⟨some 50, .mv (.t 0), none⟩,
  ⟨some 51, .nilchk (.t 50), none⟩,
  ⟨some 52, .faddr 0 (.t 51), none⟩,
  ⟨some 53, .load 1 false (.t 52), none⟩,
  ⟨some 54, .mv (.t 2), none⟩,
  ⟨some 55, .iaddr 8 (.t 53) (.t 54), none⟩,
  ⟨some 56, .faddr 3 (.t 55), none⟩,
  ⟨some 57, .load 1 false (.t 56), none⟩,
  ⟨some 58, .bin .add (.t 49) (.t 57), none⟩,
  ⟨some 7, .mv (.t 58), none⟩]
@[simp] def f247r4 : List ROper := [
  ⟨some 59, .mv (.t 7), none⟩,
  ⟨some 6, .mv (.t 59), none⟩]
def f247 : RFunc := ⟨[.t 6], (.seq (.region f247r0 [0, 1, 2]) (.seq (.dregion f247r1 [] [] [0, 2, 7]) (.seq (.seq (.region f247r2 [0, 2, 7, 48]) (.cond (.t 48) (.region f247r3 [7]) .skip)) (.seq (.region f247r4 [6]) .ret)))), false⟩

/-! (*quire/least.setter).hyphen -/
@[simp] def f248r0 : List ROper := [
  ⟨some 4, .mv (.c (.bool false)), none⟩]
@[simp] def f248r1 : List ROper := [
  ⟨some 5, .mv (.t 1), none⟩,
  ⟨some 6, .bin .geq (.t 5) (.c (.int .i64 (.ofNat 0))), none⟩,
  ⟨some 7, .mv (.t 6), none⟩,
  ⟨some 8, .mv (.t 1), some (7, true)⟩,
  ⟨some 9, .mv (.t 0), some (7, true)⟩,
  ⟨some 10, .nilchk (.t 9), some (7, true)⟩,
  ⟨some 11, .faddr 0 (.t 10), some (7, true)⟩,
  ⟨some 12, .load 1 false (.t 11), some (7, true)⟩,
  ⟨some 13, .len .slice (.t 12), some (7, true)⟩,
  ⟨some 14, .bin .lss (.t 8) (.t 13), some (7, true)⟩,
  ⟨some 15, .pick (.t 7) (.t 14) (.c (.bool false)), none⟩,
  ⟨some 16, .mv (.t 15), none⟩,
  ⟨some 17, .mv (.t 0), some (16, true)⟩,
  ⟨some 18, .nilchk (.t 17), some (16, true)⟩,
  ⟨some 19, .faddr 0 (.t 18), some (16, true)⟩,
  ⟨some 20, .load 1 false (.t 19), some (16, true)⟩,
  ⟨some 21, .mv (.t 1), some (16, true)⟩,
  ⟨some 22, .iaddr 8 (.t 20) (.t 21), some (16, true)⟩,
  ⟨some 23, .faddr 0 (.t 22), some (16, true)⟩,
  ⟨some 24, .load 1 false (.t 23), some (16, true)⟩,
  ⟨some 25, .bin .eql (.t 24) (.c (.int .i64 (.ofNat 3))), some (16, true)⟩,
  ⟨some 26, .pick (.t 16) (.t 25) (.c (.bool false)), none⟩,
  ⟨some 27, .mv (.t 26), none⟩,
  ⟨some 28, .mv (.t 0), some (27, true)⟩,
  ⟨some 29, .nilchk (.t 28), some (27, true)⟩,
  ⟨some 30, .faddr 0 (.t 29), some (27, true)⟩,
  ⟨some 31, .load 1 false (.t 30), some (27, true)⟩,
  ⟨some 32, .mv (.t 1), some (27, true)⟩,
  ⟨some 33, .iaddr 8 (.t 31) (.t 32), some (27, true)⟩,
  ⟨some 34, .faddr 7 (.t 33), some (27, true)⟩,
  ⟨some 35, .load 1 false (.t 34), some (27, true)⟩,
  ⟨some 36, .pick (.t 27) (.t 35) (.c (.bool false)), none⟩,
  ⟨some 4, .mv (.t 36), none⟩]
def f248 : RFunc := ⟨[.t 4], (.seq (.region f248r0 [0, 1]) (.seq (.region f248r1 [4]) .ret)), false⟩

/-! slices.Reverse[[]quire/api.Piece,quire/api.Piece] -/
@[simp] def f249r0 : List ROper := [
  ⟨some 4, .mv (.t 0), none⟩,
  ⟨some 5, .len .slice (.t 4), none⟩,
  ⟨some 6, .bin .sub (.t 5) (.c (.int .i64 (.ofNat 1))), none⟩,
  ⟨some 2, .mv (.c (.int .i64 (.ofNat 0))), none⟩,
  ⟨some 3, .mv (.t 6), none⟩]
@[simp] def f249r1 : List ROper := [
  ⟨some 7, .mv (.t 2), none⟩,
  ⟨some 8, .mv (.t 3), none⟩,
  ⟨some 9, .bin .lss (.t 7) (.t 8), none⟩]
@[simp] def f249r2 : List ROper := [
  ⟨some 14, .mv (.t 0), none⟩,
  ⟨some 15, .mv (.t 2), none⟩,
  ⟨some 16, .mv (.t 0), none⟩,
  ⟨some 17, .mv (.t 3), none⟩,
  ⟨some 18, .mv (.t 0), none⟩,
  ⟨some 19, .mv (.t 3), none⟩,
  ⟨some 20, .iaddr 5 (.t 18) (.t 19), none⟩,
  ⟨some 21, .load 5 true (.t 20), none⟩,
  ⟨some 22, .mv (.t 0), none⟩,
  ⟨some 23, .mv (.t 2), none⟩,
  ⟨some 24, .iaddr 5 (.t 22) (.t 23), none⟩,
  ⟨some 25, .load 5 true (.t 24), none⟩,
  ⟨some 26, .iaddr 5 (.t 14) (.t 15), none⟩,
  ⟨none, .store 5 (.t 26) (.t 21), none⟩,
  ⟨some 27, .iaddr 5 (.t 16) (.t 17), none⟩,
  ⟨none, .store 5 (.t 27) (.t 25), none⟩]
@[simp] def f249r3 : List ROper := [
  ⟨some 10, .mv (.t 2), none⟩,
  ⟨some 11, .bin .add (.t 10) (.c (.int .i64 (.ofNat 1))), none⟩,
  ⟨some 12, .mv (.t 3), none⟩,
  ⟨some 13, .bin .sub (.t 12) (.c (.int .i64 (.ofNat 1))), none⟩,
  ⟨some 2, .mv (.t 11), none⟩,
  ⟨some 3, .mv (.t 13), none⟩]
def f249B0 : RC := (.seq (.seq (.region f249r1 [0, 2, 3, 9]) (.cond (.t 9) .skip (.exit 0))) (.seq (.block 1 (.dregion f249r2 [] [] [0, 2, 3])) (.region f249r3 [0, 2, 3])))
def f249L0 : RC := .loop [0, 2, 3] f249B0
def f249 : RFunc := ⟨[], (.seq (.region f249r0 [0, 2, 3]) (.block 0 f249L0)), false⟩

/-! (*quire/least.setter).tame -/
@[simp] def f265r0 : List ROper := [
  ⟨some 2, .mv (.c (.bool false)), none⟩]
@[simp] def f265r1 : List ROper := [
  ⟨some 3, .mv (.t 0), none⟩,
  ⟨some 4, .nilchk (.t 3), none⟩,
  ⟨some 5, .faddr 0 (.t 4), none⟩,
  ⟨some 6, .load 1 false (.t 5), none⟩,
  ⟨some 7, .call 275 [(.t 6), (.f 276)], none⟩,
  ⟨some 8, .un .not (.t 7), none⟩,
  ⟨some 2, .mv (.t 8), none⟩]
def f265 : RFunc := ⟨[.t 2], (.seq (.region f265r0 [0]) (.seq (.region f265r1 [2]) .ret)), false⟩

/-! (*quire/least.setter).full -/
@[simp] def f266r0 : List ROper := [
  ⟨some 8, .mv (.c (.bool false)), none⟩]
@[simp] def f266r1 : List ROper := [
  ⟨some 10, .mv (.t 0), none⟩,
  ⟨some 11, .nilchk (.t 10), none⟩,
  ⟨some 12, .faddr 7 (.t 11), none⟩,
  ⟨some 13, .load 1 false (.t 12), none⟩,
  ⟨some 14, .mv (.t 2), none⟩,
  ⟨some 15, .iaddr 1 (.t 13) (.t 14), none⟩,
  ⟨some 16, .load 1 false (.t 15), none⟩,
  ⟨some 17, .mv (.t 1), none⟩,
  ⟨some 18, .max [(.t 16), (.t 17)], none⟩,
  ⟨some 9, .mv (.t 18), none⟩]
@[simp] def f266r2 : List ROper := [
  ⟨some 19, .mv (.t 0), none⟩,
  ⟨some 20, .nilchk (.t 19), none⟩,
  ⟨some 21, .faddr 4 (.t 20), none⟩,
  ⟨some 22, .load 1 false (.t 21), none⟩,
  ⟨some 23, .mv (.t 9), none⟩,
  ⟨some 24, .iaddr 1 (.t 22) (.t 23), none⟩,
  ⟨some 25, .load 1 false (.t 24), none⟩,
  ⟨some 26, .mv (.t 0), none⟩,
  ⟨some 27, .nilchk (.t 26), none⟩,
  ⟨some 28, .faddr 4 (.t 27), none⟩,
  ⟨some 29, .load 1 false (.t 28), none⟩,
  ⟨some 30, .mv (.t 1), none⟩,
  ⟨some 31, .iaddr 1 (.t 29) (.t 30), none⟩,
  ⟨some 32, .load 1 false (.t 31), none⟩,
  ⟨some 33, .bin .sub (.t 25) (.t 32), none⟩,
  ⟨some 34, .mv (.t 0), none⟩,
  ⟨some 35, .nilchk (.t 34), none⟩,
  ⟨some 36, .faddr 6 (.t 35), none⟩,
  ⟨some 37, .load 1 false (.t 36), none⟩,
  ⟨some 38, .mv (.t 9), none⟩,
  ⟨some 39, .iaddr 1 (.t 37) (.t 38), none⟩,
  ⟨some 40, .load 1 false (.t 39), none⟩,
  ⟨some 41, .mv (.t 0), none⟩,
  ⟨some 42, .nilchk (.t 41), none⟩,
  ⟨some 43, .faddr 6 (.t 42), none⟩,
  ⟨some 44, .load 1 false (.t 43), none⟩,
  ⟨some 45, .mv (.t 1), none⟩,
  ⟨some 46, .iaddr 1 (.t 44) (.t 45), none⟩,
  ⟨some 47, .load 1 false (.t 46), none⟩,
  ⟨some 48, .bin .sub (.t 40) (.t 47), none⟩,
  ⟨some 49, .bin .sub (.t 33) (.t 48), none⟩,
  ⟨some 50, .mv (.t 0), none⟩,
  ⟨some 51, .nilchk (.t 50), none⟩,
  ⟨some 52, .faddr 1 (.t 51), none⟩,
  ⟨some 53, .load 1 false (.t 52), none⟩,
  ⟨some 54, .mv (.t 0), none⟩,
  ⟨some 55, .nilchk (.t 54), none⟩,
  ⟨some 56, .faddr 2 (.t 55), none⟩,
  ⟨some 57, .load 2 true (.t 56), none⟩,
  ⟨some 58, .mv (.t 3), none⟩,
  ⟨some 59, .call 114 [(.t 53), (.t 57), (.t 58)], none⟩,
  ⟨some 60, .field 1 false 1 (.t 59), none⟩,
  ⟨some 61, .bin .gtr (.t 49) (.t 60), none⟩,
  ⟨some 8, .mv (.t 61), none⟩]
def f266 : RFunc := ⟨[.t 8], (.seq (.region f266r0 [0, 1, 2, 3]) (.seq (.region f266r1 [0, 1, 3, 9]) (.seq (.dregion f266r2 [] [] [8]) .ret))), false⟩

/-! (*quire/least.setter).follows -/
@[simp] def f267r0 : List ROper := [
  ⟨some 6, .mv (.c (.bool false)), none⟩]
@[simp] def f267r1 : List ROper := [
  ⟨some 8, .mv (.t 0), none⟩,
  ⟨some 9, .mv (.t 1), none⟩,
  ⟨some 10, .call 246 [(.t 8), (.t 9)], none⟩,
  ⟨some 7, .mv (.t 10), none⟩]
@[simp] def f267r2 : List ROper := [
  ⟨some 11, .mv (.t 2), none⟩,
  ⟨some 12, .mv (.t 0), none⟩,
  ⟨some 13, .nilchk (.t 12), none⟩,
  ⟨some 14, .faddr 0 (.t 13), none⟩,
  ⟨some 15, .load 1 false (.t 14), none⟩,
  ⟨some 16, .len .slice (.t 15), none⟩,
  ⟨some 17, .bin .eql (.t 11) (.t 16), none⟩]
@[simp] def f267r3 : List ROper := [
  ⟨some 18, .mv (.t 7), none⟩,
  ⟨some 19, .mv (.t 2), none⟩,
  ⟨some 20, .bin .lss (.t 18) (.t 19), none⟩,
  ⟨some 21, .mv (.t 20), none⟩,
  ⟨some 22, .mv (.t 0), some (21, false)⟩,
  ⟨some 23, .call 244 [(.t 22)], some (21, false)⟩,
  ⟨some 24, .mv (.t 23), some (21, false)⟩,
  ⟨some 25, .mv (.t 1), some (24, true)⟩,
  ⟨some 26, .bin .lss (.t 25) (.c (.int .i64 (.ofNat 0))), some (24, true)⟩,
  ⟨some 27, .pick (.t 24) (.t 26) (.c (.bool false)), some (21, false)⟩,
  ⟨some 28, .pick (.t 21) (.c (.bool true)) (.t 27), none⟩,
  ⟨some 6, .mv (.t 28), none⟩]
@[simp] def f267r4 : List ROper := [
  ⟨some 29, .mv (.t 0), none⟩,
  ⟨some 30, .mv (.t 2), none⟩,
  ⟨some 31, .call 277 [(.t 29), (.t 30)], none⟩,
  ⟨some 32, .mv (.t 31), none⟩,
  ⟨some 33, .mv (.t 2), some (32, true)⟩,
  ⟨some 34, .mv (.t 7), some (32, true)⟩,
  ⟨some 35, .bin .gtr (.t 33) (.t 34), some (32, true)⟩,
  ⟨some 36, .pick (.t 32) (.t 35) (.c (.bool false)), none⟩,
  ⟨some 37, .mv (.t 36), none⟩,
  ⟨some 38, .mv (.t 0), some (37, true)⟩,
  ⟨some 39, .mv (.t 2), some (37, true)⟩,
  ⟨some 40, .call 246 [(.t 38), (.t 39)], some (37, true)⟩,
  ⟨some 41, .mv (.t 0), some (37, true)⟩,
  ⟨some 42, .nilchk (.t 41), some (37, true)⟩,
  ⟨some 43, .faddr 0 (.t 42), some (37, true)⟩,
  ⟨some 44, .load 1 false (.t 43), some (37, true)⟩,
  ⟨some 45, .len .slice (.t 44), some (37, true)⟩,
  ⟨some 46, .bin .lss (.t 40) (.t 45), some (37, true)⟩,
  ⟨some 47, .pick (.t 37) (.t 46) (.c (.bool false)), none⟩,
  ⟨some 6, .mv (.t 47), none⟩]
def f267 : RFunc := ⟨[.t 6], (.seq (.region f267r0 [0, 1, 2]) (.seq (.region f267r1 [0, 1, 2, 7]) (.seq (.seq (.region f267r2 [0, 1, 2, 7, 17]) (.cond (.t 17) (.seq (.region f267r3 [6]) .ret) .skip)) (.seq (.dregion f267r4 [] [(15, [1]), (16, [1])] [6]) .ret)))), false⟩

/-! (*quire/least.setter).demerits -/
@[simp] def f268r0 : List ROper := [
  ⟨some 8, .mv (.c (.int .i64 (.ofNat 0))), none⟩,
  ⟨some 9, .mv (.c (.bool false)), none⟩]
@[simp] def f268r1 : List ROper := [
  ⟨some 16, .mv (.t 0), none⟩,
  ⟨some 17, .mv (.t 0), none⟩,
  ⟨some 18, .mv (.t 1), none⟩,
  ⟨some 19, .call 246 [(.t 17), (.t 18)], none⟩,
  ⟨some 20, .mv (.t 2), none⟩,
  ⟨some 21, .mv (.t 3), none⟩,
  ⟨some 22, .call 278 [(.t 16), (.t 19), (.t 20), (.t 21)], none⟩,
  ⟨some 15, .mv (.t 22), none⟩,
  ⟨some 23, .extract (.t 15) 0, none⟩,
  ⟨some 24, .extract (.t 15) 1, none⟩,
  ⟨some 10, .mv (.t 23), none⟩,
  ⟨some 11, .mv (.t 24), none⟩]
@[simp] def f268r2 : List ROper := [
  ⟨some 25, .mv (.t 11), none⟩,
  ⟨some 26, .un .not (.t 25), none⟩]
@[simp] def f268r3 : List ROper := [
  ⟨some 8, .mv (.c (.int .i64 (.ofNat 0))), none⟩,
  ⟨some 9, .mv (.c (.bool false)), none⟩]
@[simp] def f268r4 : List ROper := [
  ⟨some 12, .mv (.c (.int .i64 (.ofNat 0))), none⟩]
@[simp] def f268r5 : List ROper := [
  ⟨some 27, .mv (.t 2), none⟩,
  ⟨some 28, .mv (.t 0), none⟩,
  ⟨some 29, .nilchk (.t 28), none⟩,
  ⟨some 30, .faddr 0 (.t 29), none⟩,
  ⟨some 31, .load 1 false (.t 30), none⟩,
  ⟨some 32, .len .slice (.t 31), none⟩,
  ⟨some 33, .bin .lss (.t 27) (.t 32), none⟩,
  ⟨some 34, .mv (.t 33), none⟩,
  ⟨some 35, .mv (.t 0), some (34, true)⟩,
  ⟨some 36, .nilchk (.t 35), some (34, true)⟩,
  ⟨some 37, .faddr 0 (.t 36), some (34, true)⟩,
  ⟨some 38, .load 1 false (.t 37), some (34, true)⟩,
  ⟨some 39, .mv (.t 2), some (34, true)⟩,
  ⟨some 40, .iaddr 8 (.t 38) (.t 39), some (34, true)⟩,
  ⟨some 41, .faddr 0 (.t 40), some (34, true)⟩,
  ⟨some 42, .load 1 false (.t 41), some (34, true)⟩,
  ⟨some 43, .bin .eql (.t 42) (.c (.int .i64 (.ofNat 3))), some (34, true)⟩,
  ⟨some 44, .pick (.t 34) (.t 43) (.c (.bool false)), none⟩]
@[simp] def f268r6 : List ROper := [
  ⟨some 45, .mv (.t 0), none⟩,
  ⟨some 46, .nilchk (.t 45), none⟩,
  ⟨some 47, .faddr 0 (.t 46), none⟩,
  ⟨some 48, .load 1 false (.t 47), none⟩,
  ⟨some 49, .mv (.t 2), none⟩,
  ⟨some 50, .iaddr 8 (.t 48) (.t 49), none⟩,
  ⟨some 51, .faddr 6 (.t 50), none⟩,
  ⟨some 52, .load 1 false (.t 51), none⟩,
  ⟨some 12, .mv (.t 52), none⟩]
@[simp] def f268r7 : List ROper := [
  ⟨some 53, .mv (.t 10), none⟩,
  ⟨some 54, .mv (.t 10), none⟩,
  ⟨some 55, .bin .mul (.t 53) (.t 54), none⟩,
  ⟨some 56, .bin .quo (.t 55) (.c (.int .i64 (.ofNat 1000))), none⟩,
  ⟨some 57, .bin .add (.c (.int .i64 (.ofNat 10))) (.t 56), none⟩,
  ⟨some 58, .mv (.t 12), none⟩,
  ⟨some 59, .bin .add (.t 57) (.t 58), none⟩,
  ⟨some 13, .mv (.t 59), none⟩]
@[simp] def f268r8 : List ROper := [
  ⟨some 60, .mv (.t 13), none⟩,
  ⟨some 61, .mv (.t 13), none⟩,
  ⟨some 62, .bin .mul (.t 60) (.t 61), none⟩,
  ⟨some 14, .mv (.t 62), none⟩]
@[simp] def f268r9 : List ROper := [
  ⟨some 63, .mv (.t 0), none⟩,
  ⟨some 64, .mv (.t 1), none⟩,
  ⟨some 65, .call 248 [(.t 63), (.t 64)], none⟩,
  ⟨some 66, .mv (.t 65), none⟩,
  ⟨some 67, .mv (.t 0), some (66, true)⟩,
  ⟨some 68, .mv (.t 2), some (66, true)⟩,
  ⟨some 69, .call 248 [(.t 67), (.t 68)], some (66, true)⟩,
  ⟨some 70, .pick (.t 66) (.t 69) (.c (.bool false)), none⟩]
@[simp] def f268r10 : List ROper := [
  ⟨some 71, .mv (.t 14), none⟩,
  ⟨some 72, .bin .add (.t 71) (.c (.int .i64 (.ofNat 10000))), none⟩,
  ⟨some 14, .mv (.t 72), none⟩]
@[simp] def f268r11 : List ROper := [
  ⟨some 73, .mv (.t 14), none⟩,
  ⟨some 8, .mv (.t 73), none⟩,
  ⟨some 9, .mv (.c (.bool true)), none⟩]
def f268 : RFunc := ⟨[.t 8, .t 9], (.seq (.region f268r0 [0, 1, 2, 3]) (.seq (.region f268r1 [0, 1, 2, 10, 11]) (.seq (.seq (.region f268r2 [0, 1, 2, 10, 26]) (.cond (.t 26) (.seq (.region f268r3 [8, 9]) .ret) .skip)) (.seq (.region f268r4 [0, 1, 2, 10, 12]) (.seq (.seq (.region f268r5 [0, 1, 2, 10, 12, 44]) (.cond (.t 44) (.region f268r6 [0, 1, 2, 10, 12]) .skip)) (.seq (.region f268r7 [0, 1, 2, 13]) (.seq (.region f268r8 [0, 1, 2, 14]) (.seq (.seq (.region f268r9 [14, 70]) (.cond (.t 70) (.region f268r10 [14]) .skip)) (.seq (.region f268r11 [8, 9]) .ret))))))))), false⟩

/-! cmp.Or[int] -/
@[simp] def f269r0 : List ROper := [
  ⟨some 2, .mv (.c (.int .i64 (.ofNat 0))), none⟩]
@[simp] def f269r1 : List ROper := [
  ⟨some 3, .mv (.c (.int .i64 (.ofNat 0))), none⟩]
@[simp] def f269r2 : List ROper := [
  ⟨some 6, .mv (.t 0), none⟩,
  ⟨some 7, .len .slice (.t 6), none⟩,
  ⟨some 8, .mv (.c (.int .i64 (.ofNat 0))), none⟩]
@[simp] def f269r3 : List ROper := [
  ⟨some 9, .bin .lss (.t 8) (.t 7), none⟩]
@[simp] def f269r4 : List ROper := [
  ⟨some 10, .iaddr 1 (.t 6) (.t 8), none⟩,
  ⟨some 11, .load 1 false (.t 10), none⟩,
  ⟨some 5, .mv (.t 11), none⟩]
@[simp] def f269r5 : List ROper := [
  ⟨some 12, .mv (.t 5), none⟩,
  ⟨some 13, .mv (.t 3), none⟩,
  ⟨some 14, .bin .neq (.t 12) (.t 13), none⟩]
@[simp] def f269r6 : List ROper := [
  ⟨some 15, .mv (.t 5), none⟩,
  ⟨some 2, .mv (.t 15), none⟩]
@[simp] def f269r7 : List ROper := [
  ⟨some 16, .bin .add (.t 8) (.c (.int .i64 (.ofNat 1))), none⟩,
  ⟨some 8, .mv (.t 16), none⟩]
def f269B0 : RC := (.seq (.region f269r3 [3, 6, 7, 8, 9]) (.seq (.cond (.t 9) .skip (.exit 0)) (.seq (.block 1 (.seq (.region f269r4 [3, 5, 6, 7, 8]) (.seq (.region f269r5 [3, 5, 6, 7, 8, 14]) (.cond (.t 14) (.seq (.region f269r6 [2]) .ret) .skip)))) (.region f269r7 [3, 6, 7, 8]))))
def f269L0 : RC := .loop [3, 6, 7, 8] f269B0
@[simp] def f269r8 : List ROper := [
  ⟨some 17, .mv (.t 3), none⟩,
  ⟨some 2, .mv (.t 17), none⟩]
def f269 : RFunc := ⟨[.t 2], (.seq (.region f269r0 [0]) (.seq (.region f269r1 [0, 3]) (.seq (.seq (.region f269r2 [3, 6, 7, 8]) (.block 0 f269L0)) (.seq (.region f269r8 [2]) .ret)))), true⟩

/-! slices.DeleteFunc[[]int,int] -/
@[simp] def f270r0 : List ROper := [
  ⟨some 4, .mv (.c (.list 0 0 .no false [])), none⟩]
@[simp] def f270r1 : List ROper := [
  ⟨some 8, .mv (.t 0), none⟩,
  ⟨some 9, .mv (.t 1), none⟩,
  ⟨some 10, .call 279 [(.t 8), (.t 9)], none⟩,
  ⟨some 5, .mv (.t 10), none⟩]
@[simp] def f270r2 : List ROper := [
  ⟨some 11, .mv (.t 5), none⟩,
  ⟨some 12, .bin .eql (.t 11) (.c (.int .i64 (.negSucc 0))), none⟩]
@[simp] def f270r3 : List ROper := [
  ⟨some 13, .mv (.t 0), none⟩,
  ⟨some 4, .mv (.t 13), none⟩]
@[simp] def f270r4 : List ROper := [
  ⟨some 14, .mv (.t 5), none⟩,
  ⟨some 15, .bin .add (.t 14) (.c (.int .i64 (.ofNat 1))), none⟩,
  ⟨some 6, .mv (.t 15), none⟩]
@[simp] def f270r5 : List ROper := [
  ⟨some 16, .mv (.t 6), none⟩,
  ⟨some 17, .mv (.t 0), none⟩,
  ⟨some 18, .len .slice (.t 17), none⟩,
  ⟨some 19, .bin .lss (.t 16) (.t 18), none⟩]
@[simp] def f270r6 : List ROper := [
  ⟨some 22, .mv (.t 0), none⟩,
  ⟨some 23, .mv (.t 6), none⟩,
  ⟨some 24, .iaddr 1 (.t 22) (.t 23), none⟩,
  ⟨some 25, .load 1 false (.t 24), none⟩,
  ⟨some 7, .mv (.t 25), none⟩]
@[simp] def f270r7 : List ROper := [
  ⟨some 26, .mv (.t 1), none⟩,
  ⟨some 27, .mv (.t 7), none⟩,
  ⟨some 28, .callv (.t 26) [(.t 27)], none⟩,
  ⟨some 29, .un .not (.t 28), none⟩]
@[simp] def f270r8 : List ROper := [
  ⟨some 30, .mv (.t 0), none⟩,
  ⟨some 31, .mv (.t 5), none⟩,
  ⟨some 32, .mv (.t 7), none⟩,
  ⟨some 33, .iaddr 1 (.t 30) (.t 31), none⟩,
  ⟨none, .store 1 (.t 33) (.t 32), none⟩]
@[simp] def f270r9 : List ROper := [
  ⟨some 34, .mv (.t 5), none⟩,
  ⟨some 35, .bin .add (.t 34) (.c (.int .i64 (.ofNat 1))), none⟩,
  ⟨some 5, .mv (.t 35), none⟩]
@[simp] def f270r10 : List ROper := [
  ⟨some 20, .mv (.t 6), none⟩,
  ⟨some 21, .bin .add (.t 20) (.c (.int .i64 (.ofNat 1))), none⟩,
  ⟨some 6, .mv (.t 21), none⟩]
def f270B0 : RC := (.seq (.seq (.region f270r5 [0, 1, 5, 6, 19]) (.cond (.t 19) .skip (.exit 0))) (.seq (.block 1 (.seq (.region f270r6 [0, 1, 5, 6, 7]) (.seq (.region f270r7 [0, 1, 5, 6, 7, 29]) (.cond (.t 29) (.seq (.region f270r8 [0, 1, 5, 6]) (.region f270r9 [0, 1, 5, 6])) .skip)))) (.region f270r10 [0, 1, 5, 6])))
def f270L0 : RC := .loop [0, 1, 5, 6] f270B0
@[simp] def f270r11 : List ROper := [
  ⟨some 36, .mv (.t 0), none⟩,
  ⟨some 37, .mv (.t 5), none⟩,
  ⟨some 38, .slice false 1 (.t 36) (some (.t 37)) none none, none⟩,
  ⟨none, .clear 1 [(.int .i64 (.ofNat 0))] (.t 38), none⟩]
@[simp] def f270r12 : List ROper := [
  ⟨some 39, .mv (.t 0), none⟩,
  ⟨some 40, .mv (.t 5), none⟩,
  ⟨some 41, .slice false 1 (.t 39) none (some (.t 40)) none, none⟩,
  ⟨some 4, .mv (.t 41), none⟩]
def f270 : RFunc := ⟨[.t 4], (.seq (.region f270r0 [0, 1]) (.seq (.region f270r1 [0, 1, 5]) (.seq (.seq (.region f270r2 [0, 1, 5, 12]) (.cond (.t 12) (.seq (.region f270r3 [4]) .ret) .skip)) (.seq (.seq (.region f270r4 [0, 1, 5, 6]) (.block 0 f270L0)) (.seq (.region f270r11 [0, 5]) (.seq (.region f270r12 [4]) .ret)))))), false⟩

/-! (*quire/least.setter).ways$1 -/
@[simp] def f271r0 : List ROper := [
  ⟨some 3, .mv (.c (.bool false)), none⟩]
@[simp] def f271r1 : List ROper := [
  ⟨some 4, .mv (.t 0), none⟩,
  ⟨some 5, .load 1 false (.t 1), none⟩,
  ⟨some 6, .nilchk (.t 5), none⟩,
  ⟨some 7, .faddr 0 (.t 6), none⟩,
  ⟨some 8, .load 1 false (.t 7), none⟩,
  ⟨some 9, .len .slice (.t 8), none⟩,
  ⟨some 10, .bin .eql (.t 4) (.t 9), none⟩,
  ⟨some 3, .mv (.t 10), none⟩]
def f271 : RFunc := ⟨[.t 3], (.seq (.region f271r0 [0, 1]) (.seq (.region f271r1 [3]) .ret)), false⟩

/-! slices.Sort[[]int,int] -/
@[simp] def f272r0 : List ROper := [
  ⟨some 3, .mv (.t 0), none⟩,
  ⟨some 4, .len .slice (.t 3), none⟩,
  ⟨some 2, .mv (.t 4), none⟩]
@[simp] def f272r1 : List ROper := [
  ⟨some 5, .mv (.t 0), none⟩,
  ⟨some 6, .mv (.t 2), none⟩,
  ⟨some 7, .mv (.t 2), none⟩,
  ⟨some 8, .i2i .u64 (.t 7), none⟩,
  ⟨some 9, .call 281 [(.t 8)], none⟩,
  ⟨some 10, .call 280 [(.t 5), (.c (.int .i64 (.ofNat 0))), (.t 6), (.t 9)], none⟩]
def f272 : RFunc := ⟨[], (.seq (.region f272r0 [0, 2]) (.region f272r1 [])), true⟩

/-! slices.ContainsFunc[[]quire/api.Item,quire/api.Item] -/
@[simp] def f275r0 : List ROper := [
  ⟨some 4, .mv (.c (.bool false)), none⟩]
@[simp] def f275r1 : List ROper := [
  ⟨some 5, .mv (.t 0), none⟩,
  ⟨some 6, .mv (.t 1), none⟩,
  ⟨some 7, .call 282 [(.t 5), (.t 6)], none⟩,
  ⟨some 8, .bin .geq (.t 7) (.c (.int .i64 (.ofNat 0))), none⟩,
  ⟨some 4, .mv (.t 8), none⟩]
def f275 : RFunc := ⟨[.t 4], (.seq (.region f275r0 [0, 1]) (.seq (.region f275r1 [4]) .ret)), false⟩

/-! (*quire/least.setter).tame$1 -/
@[simp] def f276r0 : List ROper := [
  ⟨some 1, .box 8 (.t 0), none⟩,
  ⟨some 2, .mv (.c (.bool false)), none⟩]
@[simp] def f276r1 : List ROper := [
  ⟨some 3, .faddr 5 (.t 1), none⟩,
  ⟨some 4, .load 1 false (.t 3), none⟩,
  ⟨some 5, .faddr 3 (.t 1), none⟩,
  ⟨some 6, .load 1 false (.t 5), none⟩,
  ⟨some 7, .bin .gtr (.t 4) (.t 6), none⟩,
  ⟨some 2, .mv (.t 7), none⟩]
def f276 : RFunc := ⟨[.t 2], (.seq (.region f276r0 [1]) (.seq (.region f276r1 [2]) .ret)), true⟩

/-! (*quire/least.setter).legal -/
@[simp] def f277r0 : List ROper := [
  ⟨some 4, .mv (.c (.bool false)), none⟩]
@[simp] def f277r1 : List ROper := [
  ⟨some 5, .mv (.t 1), none⟩,
  ⟨some 6, .mv (.t 0), none⟩,
  ⟨some 7, .nilchk (.t 6), none⟩,
  ⟨some 8, .faddr 0 (.t 7), none⟩,
  ⟨some 9, .load 1 false (.t 8), none⟩,
  ⟨some 10, .len .slice (.t 9), none⟩,
  ⟨some 11, .bin .eql (.t 5) (.t 10), none⟩,
  ⟨some 12, .mv (.t 11), none⟩,
  ⟨some 13, .mv (.t 0), some (12, false)⟩,
  ⟨some 14, .nilchk (.t 13), some (12, false)⟩,
  ⟨some 15, .faddr 0 (.t 14), some (12, false)⟩,
  ⟨some 16, .load 1 false (.t 15), some (12, false)⟩,
  ⟨some 17, .mv (.t 1), some (12, false)⟩,
  ⟨some 18, .iaddr 8 (.t 16) (.t 17), some (12, false)⟩,
  ⟨some 19, .faddr 0 (.t 18), some (12, false)⟩,
  ⟨some 20, .load 1 false (.t 19), some (12, false)⟩,
  ⟨some 21, .bin .eql (.t 20) (.c (.int .i64 (.ofNat 3))), some (12, false)⟩,
  ⟨some 22, .pick (.t 12) (.c (.bool true)) (.t 21), none⟩]
@[simp] def f277r2 : List ROper := [
  ⟨some 4, .mv (.c (.bool true)), none⟩]
@[simp] def f277r3 : List ROper := [
  ⟨some 23, .mv (.t 0), none⟩,
  ⟨some 24, .nilchk (.t 23), none⟩,
  ⟨some 25, .faddr 0 (.t 24), none⟩,
  ⟨some 26, .load 1 false (.t 25), none⟩,
  ⟨some 27, .mv (.t 1), none⟩,
  ⟨some 28, .iaddr 8 (.t 26) (.t 27), none⟩,
  ⟨some 29, .faddr 0 (.t 28), none⟩,
  ⟨some 30, .load 1 false (.t 29), none⟩,
  ⟨some 31, .bin .eql (.t 30) (.c (.int .i64 (.ofNat 2))), none⟩,
  ⟨some 32, .mv (.t 31), none⟩,
  ⟨some 33, .mv (.t 1), some (32, true)⟩,
  ⟨some 34, .bin .gtr (.t 33) (.c (.int .i64 (.ofNat 0))), some (32, true)⟩,
  ⟨some 35, .pick (.t 32) (.t 34) (.c (.bool false)), none⟩,
  ⟨some 36, .mv (.t 35), none⟩,
  ⟨some 37, .mv (.t 0), some (36, true)⟩,
  ⟨some 38, .nilchk (.t 37), some (36, true)⟩,
  ⟨some 39, .faddr 0 (.t 38), some (36, true)⟩,
  ⟨some 40, .load 1 false (.t 39), some (36, true)⟩,
  ⟨some 41, .mv (.t 1), some (36, true)⟩,
  ⟨some 42, .bin .sub (.t 41) (.c (.int .i64 (.ofNat 1))), some (36, true)⟩,
  ⟨some 43, .iaddr 8 (.t 40) (.t 42), some (36, true)⟩,
  ⟨some 44, .faddr 0 (.t 43), some (36, true)⟩,
  ⟨some 45, .load 1 false (.t 44), some (36, true)⟩,
  ⟨some 46, .bin .neq (.t 45) (.c (.int .i64 (.ofNat 2))), some (36, true)⟩,
  ⟨some 47, .pick (.t 36) (.t 46) (.c (.bool false)), none⟩,
  ⟨some 4, .mv (.t 47), none⟩]
def f277 : RFunc := ⟨[.t 4], (.seq (.region f277r0 [0, 1]) (.seq (.seq (.region f277r1 [0, 1, 22]) (.cond (.t 22) (.seq (.region f277r2 [4]) .ret) .skip)) (.seq (.region f277r3 [4]) .ret))), false⟩

/-! (*quire/least.setter).ratio -/
@[simp] def f278r0 : List ROper := [
  ⟨some 8, .mv (.c (.int .i64 (.ofNat 0))), none⟩,
  ⟨some 9, .mv (.c (.bool false)), none⟩]
@[simp] def f278r1 : List ROper := [
  ⟨some 17, .mv (.t 0), none⟩,
  ⟨some 18, .mv (.t 1), none⟩,
  ⟨some 19, .mv (.t 2), none⟩,
  ⟨some 20, .call 247 [(.t 17), (.t 18), (.t 19)], none⟩,
  ⟨some 21, .mv (.t 0), none⟩,
  ⟨some 22, .nilchk (.t 21), none⟩,
  ⟨some 23, .faddr 1 (.t 22), none⟩,
  ⟨some 24, .load 1 false (.t 23), none⟩,
  ⟨some 25, .mv (.t 0), none⟩,
  ⟨some 26, .nilchk (.t 25), none⟩,
  ⟨some 27, .faddr 2 (.t 26), none⟩,
  ⟨some 28, .load 2 true (.t 27), none⟩,
  ⟨some 29, .mv (.t 3), none⟩,
  ⟨some 30, .call 114 [(.t 24), (.t 28), (.t 29)], none⟩,
  ⟨some 31, .field 1 false 1 (.t 30), none⟩,
  ⟨some 10, .mv (.t 20), none⟩,
  ⟨some 11, .mv (.t 31), none⟩]
@[simp] def f278r2 : List ROper := [
  ⟨some 32, .mv (.t 0), none⟩,
  ⟨some 33, .nilchk (.t 32), none⟩,
  ⟨some 34, .faddr 7 (.t 33), none⟩,
  ⟨some 35, .load 1 false (.t 34), none⟩,
  ⟨some 36, .mv (.t 2), none⟩,
  ⟨some 37, .iaddr 1 (.t 35) (.t 36), none⟩,
  ⟨some 38, .load 1 false (.t 37), none⟩,
  ⟨some 39, .mv (.t 1), none⟩,
  ⟨some 40, .max [(.t 38), (.t 39)], none⟩,
  ⟨some 12, .mv (.t 40), none⟩]
@[simp] def f278r3 : List ROper := [
  ⟨some 42, .mv (.t 10), none⟩,
  ⟨some 43, .mv (.t 11), none⟩,
  ⟨some 44, .bin .eql (.t 42) (.t 43), none⟩,
  ⟨some 41, .mv (.t 44), none⟩]
@[simp] def f278r4 : List ROper := [
  ⟨some 45, .mv (.t 10), none⟩,
  ⟨some 46, .mv (.t 11), none⟩,
  ⟨some 47, .bin .lss (.t 45) (.t 46), none⟩,
  ⟨some 48, .mv (.t 47), none⟩,
  ⟨some 49, .mv (.t 2), some (48, true)⟩,
  ⟨some 50, .mv (.t 0), some (48, true)⟩,
  ⟨some 51, .nilchk (.t 50), some (48, true)⟩,
  ⟨some 52, .faddr 0 (.t 51), some (48, true)⟩,
  ⟨some 53, .load 1 false (.t 52), some (48, true)⟩,
  ⟨some 54, .len .slice (.t 53), some (48, true)⟩,
  ⟨some 55, .bin .eql (.t 49) (.t 54), some (48, true)⟩,
  ⟨some 56, .pick (.t 48) (.t 55) (.c (.bool false)), none⟩,
  ⟨some 41, .mv (.t 56), none⟩]
@[simp] def f278r5 : List ROper := [
  ⟨some 8, .mv (.c (.int .i64 (.ofNat 0))), none⟩,
  ⟨some 9, .mv (.c (.bool true)), none⟩]
@[simp] def f278r6 : List ROper := [
  ⟨some 58, .mv (.t 10), none⟩,
  ⟨some 59, .mv (.t 11), none⟩,
  ⟨some 60, .bin .lss (.t 58) (.t 59), none⟩,
  ⟨some 57, .mv (.t 60), none⟩]
@[simp] def f278r7 : List ROper := [
  ⟨some 61, .mv (.t 0), none⟩,
  ⟨some 62, .nilchk (.t 61), none⟩,
  ⟨some 63, .faddr 5 (.t 62), none⟩,
  ⟨some 64, .load 1 false (.t 63), none⟩,
  ⟨some 65, .mv (.t 12), none⟩,
  ⟨some 66, .iaddr 1 (.t 64) (.t 65), none⟩,
  ⟨some 67, .load 1 false (.t 66), none⟩,
  ⟨some 68, .mv (.t 0), none⟩,
  ⟨some 69, .nilchk (.t 68), none⟩,
  ⟨some 70, .faddr 5 (.t 69), none⟩,
  ⟨some 71, .load 1 false (.t 70), none⟩,
  ⟨some 72, .mv (.t 1), none⟩,
  ⟨some 73, .iaddr 1 (.t 71) (.t 72), none⟩,
  ⟨some 74, .load 1 false (.t 73), none⟩,
  ⟨some 75, .bin .sub (.t 67) (.t 74), none⟩,
  ⟨some 13, .mv (.t 75), none⟩]
@[simp] def f278r8 : List ROper := [
  ⟨some 76, .mv (.t 13), none⟩,
  ⟨some 77, .bin .eql (.t 76) (.c (.int .i64 (.ofNat 0))), none⟩]
@[simp] def f278r9 : List ROper := [
  ⟨some 8, .mv (.c (.int .i64 (.ofNat 0))), none⟩,
  ⟨some 9, .mv (.c (.bool false)), none⟩]
@[simp] def f278r10 : List ROper := [
  ⟨some 78, .mv (.t 11), none⟩,
  ⟨some 79, .mv (.t 10), none⟩,
  ⟨some 80, .bin .sub (.t 78) (.t 79), none⟩,
  ⟨some 81, .bin .mul (.c (.int .i64 (.ofNat 1000))) (.t 80), none⟩,
  ⟨some 82, .mv (.t 13), none⟩,
  ⟨some 83, .bin .quo (.t 81) (.t 82), none⟩,
  ⟨some 14, .mv (.t 83), none⟩]
@[simp] def f278r11 : List ROper := [
  ⟨some 84, .mv (.t 14), none⟩,
  ⟨some 85, .mv (.t 14), none⟩,
  ⟨some 86, .bin .leq (.t 85) (.c (.int .i64 (.ofNat 3000))), none⟩,
  ⟨some 8, .mv (.t 84), none⟩,
  ⟨some 9, .mv (.t 86), none⟩]
@[simp] def f278r12 : List ROper := [
  ⟨some 87, .mv (.t 0), none⟩,
  ⟨some 88, .nilchk (.t 87), none⟩,
  ⟨some 89, .faddr 6 (.t 88), none⟩,
  ⟨some 90, .load 1 false (.t 89), none⟩,
  ⟨some 91, .mv (.t 12), none⟩,
  ⟨some 92, .iaddr 1 (.t 90) (.t 91), none⟩,
  ⟨some 93, .load 1 false (.t 92), none⟩,
  ⟨some 94, .mv (.t 0), none⟩,
  ⟨some 95, .nilchk (.t 94), none⟩,
  ⟨some 96, .faddr 6 (.t 95), none⟩,
  ⟨some 97, .load 1 false (.t 96), none⟩,
  ⟨some 98, .mv (.t 1), none⟩,
  ⟨some 99, .iaddr 1 (.t 97) (.t 98), none⟩,
  ⟨some 100, .load 1 false (.t 99), none⟩,
  ⟨some 101, .bin .sub (.t 93) (.t 100), none⟩,
  ⟨some 15, .mv (.t 101), none⟩]
@[simp] def f278r13 : List ROper := [
  ⟨some 102, .mv (.t 15), none⟩,
  ⟨some 103, .bin .eql (.t 102) (.c (.int .i64 (.ofNat 0))), none⟩]
@[simp] def f278r14 : List ROper := [
  ⟨some 8, .mv (.c (.int .i64 (.ofNat 0))), none⟩,
  ⟨some 9, .mv (.c (.bool false)), none⟩]
@[simp] def f278r15 : List ROper := [
  ⟨some 104, .mv (.t 10), none⟩,
  ⟨some 105, .mv (.t 11), none⟩,
  ⟨some 106, .bin .sub (.t 104) (.t 105), none⟩,
  ⟨some 107, .bin .mul (.c (.int .i64 (.ofNat 1000))) (.t 106), none⟩,
  ⟨some 108, .mv (.t 15), none⟩,
  ⟨some 109, .bin .quo (.t 107) (.t 108), none⟩,
  ⟨some 16, .mv (.t 109), none⟩]
@[simp] def f278r16 : List ROper := [
  ⟨some 110, .mv (.t 16), none⟩,
  ⟨some 111, .mv (.t 16), none⟩,
  ⟨some 112, .bin .leq (.t 111) (.c (.int .i64 (.ofNat 1000))), none⟩,
  ⟨some 8, .mv (.t 110), none⟩,
  ⟨some 9, .mv (.t 112), none⟩]
def f278 : RFunc := ⟨[.t 8, .t 9], (.seq (.region f278r0 [0, 1, 2, 3]) (.seq (.dregion f278r1 [] [(7, [0]), (11, [0])] [0, 1, 2, 10, 11]) (.seq (.region f278r2 [0, 1, 2, 10, 11, 12]) (.seq (.block 0 (.seq (.seq (.region f278r3 [0, 1, 2, 10, 11, 12, 41]) (.cond (.t 41) .skip (.region f278r4 [0, 1, 10, 11, 12, 41]))) (.cond (.t 41) (.seq (.region f278r5 [8, 9]) .ret) (.seq (.region f278r6 [0, 1, 10, 11, 12, 57]) (.cond (.t 57) (.seq (.dregion f278r7 [] [] [10, 11, 13]) (.seq (.seq (.region f278r8 [10, 11, 13, 77]) (.cond (.t 77) (.seq (.region f278r9 [8, 9]) .ret) .skip)) (.seq (.region f278r10 [14]) (.seq (.region f278r11 [8, 9]) .ret)))) .skip))))) (.seq (.dregion f278r12 [] [] [10, 11, 15]) (.seq (.seq (.region f278r13 [10, 11, 15, 103]) (.cond (.t 103) (.seq (.region f278r14 [8, 9]) .ret) .skip)) (.seq (.region f278r15 [16]) (.seq (.region f278r16 [8, 9]) .ret)))))))), false⟩

/-! slices.IndexFunc[[]int,int] -/
@[simp] def f279r0 : List ROper := [
  ⟨some 4, .mv (.c (.int .i64 (.ofNat 0))), none⟩]
@[simp] def f279r1 : List ROper := [
  ⟨some 6, .mv (.t 0), none⟩,
  ⟨some 7, .len .slice (.t 6), none⟩,
  ⟨some 8, .mv (.c (.int .i64 (.ofNat 0))), none⟩]
@[simp] def f279r2 : List ROper := [
  ⟨some 9, .bin .lss (.t 8) (.t 7), none⟩]
@[simp] def f279r3 : List ROper := [
  ⟨some 10, .mv (.t 8), none⟩,
  ⟨some 5, .mv (.t 10), none⟩]
@[simp] def f279r4 : List ROper := [
  ⟨some 11, .mv (.t 1), none⟩,
  ⟨some 12, .mv (.t 0), none⟩,
  ⟨some 13, .mv (.t 5), none⟩,
  ⟨some 14, .iaddr 1 (.t 12) (.t 13), none⟩,
  ⟨some 15, .load 1 false (.t 14), none⟩,
  ⟨some 16, .callv (.t 11) [(.t 15)], none⟩]
@[simp] def f279r5 : List ROper := [
  ⟨some 17, .mv (.t 5), none⟩,
  ⟨some 4, .mv (.t 17), none⟩]
@[simp] def f279r6 : List ROper := [
  ⟨some 18, .bin .add (.t 8) (.c (.int .i64 (.ofNat 1))), none⟩,
  ⟨some 8, .mv (.t 18), none⟩]
def f279B0 : RC := (.seq (.region f279r2 [0, 1, 7, 8, 9]) (.seq (.cond (.t 9) .skip (.exit 0)) (.seq (.block 1 (.seq (.region f279r3 [0, 1, 5, 7, 8]) (.seq (.region f279r4 [0, 1, 5, 7, 8, 16]) (.cond (.t 16) (.seq (.region f279r5 [4]) .ret) .skip)))) (.region f279r6 [0, 1, 7, 8]))))
def f279L0 : RC := .loop [0, 1, 7, 8] f279B0
@[simp] def f279r7 : List ROper := [
  ⟨some 4, .mv (.c (.int .i64 (.negSucc 0))), none⟩]
def f279 : RFunc := ⟨[.t 4], (.seq (.region f279r0 [0, 1]) (.seq (.seq (.region f279r1 [0, 1, 7, 8]) (.block 0 f279L0)) (.seq (.region f279r7 [4]) .ret))), false⟩

/-! slices.pdqsortOrdered[int] -/
@[simp] def f280r0 : List ROper := [
  ⟨some 8, .mv (.c (.bool true)), none⟩]
@[simp] def f280r1 : List ROper := [
  ⟨some 9, .mv (.c (.bool true)), none⟩]
@[simp] def f280r2 : List ROper := [
  ⟨some 19, .mv (.t 2), none⟩,
  ⟨some 20, .mv (.t 1), none⟩,
  ⟨some 21, .bin .sub (.t 19) (.t 20), none⟩,
  ⟨some 10, .mv (.t 21), none⟩]
@[simp] def f280r3 : List ROper := [
  ⟨some 22, .mv (.t 10), none⟩,
  ⟨some 23, .bin .leq (.t 22) (.c (.int .i64 (.ofNat 12))), none⟩]
@[simp] def f280r4 : List ROper := [
  ⟨some 24, .mv (.t 0), none⟩,
  ⟨some 25, .mv (.t 1), none⟩,
  ⟨some 26, .mv (.t 2), none⟩,
  ⟨some 27, .call 283 [(.t 24), (.t 25), (.t 26)], none⟩]
@[simp] def f280r5 : List ROper := [
  ⟨some 28, .mv (.t 3), none⟩,
  ⟨some 29, .bin .eql (.t 28) (.c (.int .i64 (.ofNat 0))), none⟩]
@[simp] def f280r6 : List ROper := [
  ⟨some 30, .mv (.t 0), none⟩,
  ⟨some 31, .mv (.t 1), none⟩,
  ⟨some 32, .mv (.t 2), none⟩,
  ⟨some 33, .call 284 [(.t 30), (.t 31), (.t 32)], none⟩]
@[simp] def f280r7 : List ROper := [
  ⟨some 34, .mv (.t 8), none⟩,
  ⟨some 35, .un .not (.t 34), none⟩]
@[simp] def f280r8 : List ROper := [
  ⟨some 36, .mv (.t 0), none⟩,
  ⟨some 37, .mv (.t 1), none⟩,
  ⟨some 38, .mv (.t 2), none⟩,
  ⟨some 39, .call 285 [(.t 36), (.t 37), (.t 38)], none⟩]
@[simp] def f280r9 : List ROper := [
  ⟨some 40, .mv (.t 3), none⟩,
  ⟨some 41, .bin .sub (.t 40) (.c (.int .i64 (.ofNat 1))), none⟩,
  ⟨some 3, .mv (.t 41), none⟩]
@[simp] def f280r10 : List ROper := [
  ⟨some 43, .mv (.t 0), none⟩,
  ⟨some 44, .mv (.t 1), none⟩,
  ⟨some 45, .mv (.t 2), none⟩,
  ⟨some 46, .call 286 [(.t 43), (.t 44), (.t 45)], none⟩,
  ⟨some 42, .mv (.t 46), none⟩,
  ⟨some 47, .extract (.t 42) 0, none⟩,
  ⟨some 48, .extract (.t 42) 1, none⟩,
  ⟨some 11, .mv (.t 47), none⟩,
  ⟨some 12, .mv (.t 48), none⟩]
@[simp] def f280r11 : List ROper := [
  ⟨some 49, .mv (.t 12), none⟩,
  ⟨some 50, .bin .eql (.t 49) (.c (.int .i64 (.ofNat 2))), none⟩]
@[simp] def f280r12 : List ROper := [
  ⟨some 51, .mv (.t 0), none⟩,
  ⟨some 52, .mv (.t 1), none⟩,
  ⟨some 53, .mv (.t 2), none⟩,
  ⟨some 54, .call 287 [(.t 51), (.t 52), (.t 53)], none⟩]
@[simp] def f280r13 : List ROper := [
  ⟨some 55, .mv (.t 2), none⟩,
  ⟨some 56, .bin .sub (.t 55) (.c (.int .i64 (.ofNat 1))), none⟩,
  ⟨some 57, .mv (.t 11), none⟩,
  ⟨some 58, .mv (.t 1), none⟩,
  ⟨some 59, .bin .sub (.t 57) (.t 58), none⟩,
  ⟨some 60, .bin .sub (.t 56) (.t 59), none⟩,
  ⟨some 11, .mv (.t 60), none⟩]
@[simp] def f280r14 : List ROper := [
  ⟨some 12, .mv (.c (.int .i64 (.ofNat 1))), none⟩]
@[simp] def f280r15 : List ROper := [
  ⟨some 61, .mv (.t 8), none⟩,
  ⟨some 62, .mv (.t 61), none⟩,
  ⟨some 63, .mv (.t 9), some (62, true)⟩,
  ⟨some 64, .pick (.t 62) (.t 63) (.c (.bool false)), none⟩,
  ⟨some 65, .mv (.t 64), none⟩,
  ⟨some 66, .mv (.t 12), some (65, true)⟩,
  ⟨some 67, .bin .eql (.t 66) (.c (.int .i64 (.ofNat 1))), some (65, true)⟩,
  ⟨some 68, .pick (.t 65) (.t 67) (.c (.bool false)), none⟩]
@[simp] def f280r16 : List ROper := [
  ⟨some 69, .mv (.t 0), none⟩,
  ⟨some 70, .mv (.t 1), none⟩,
  ⟨some 71, .mv (.t 2), none⟩,
  ⟨some 72, .call 288 [(.t 69), (.t 70), (.t 71)], none⟩]
@[simp] def f280r17 : List ROper := [
  ⟨some 73, .mv (.t 1), none⟩,
  ⟨some 74, .bin .gtr (.t 73) (.c (.int .i64 (.ofNat 0))), none⟩,
  ⟨some 75, .mv (.t 74), none⟩,
  ⟨some 76, .mv (.t 0), some (75, true)⟩,
  ⟨some 77, .mv (.t 1), some (75, true)⟩,
  ⟨some 78, .bin .sub (.t 77) (.c (.int .i64 (.ofNat 1))), some (75, true)⟩,
  ⟨some 79, .iaddr 1 (.t 76) (.t 78), some (75, true)⟩,
  ⟨some 80, .load 1 false (.t 79), some (75, true)⟩,
  ⟨some 81, .mv (.t 0), some (75, true)⟩,
  ⟨some 82, .mv (.t 11), some (75, true)⟩,
  ⟨some 83, .iaddr 1 (.t 81) (.t 82), some (75, true)⟩,
  ⟨some 84, .load 1 false (.t 83), some (75, true)⟩,
  ⟨some 85, .call 289 [(.t 80), (.t 84)], some (75, true)⟩,
  ⟨some 86, .un .not (.t 85), some (75, true)⟩,
  ⟨some 87, .pick (.t 75) (.t 86) (.c (.bool false)), none⟩]
@[simp] def f280r18 : List ROper := [
  ⟨some 88, .mv (.t 0), none⟩,
  ⟨some 89, .mv (.t 1), none⟩,
  ⟨some 90, .mv (.t 2), none⟩,
  ⟨some 91, .mv (.t 11), none⟩,
  ⟨some 92, .call 290 [(.t 88), (.t 89), (.t 90), (.t 91)], none⟩,
  ⟨some 13, .mv (.t 92), none⟩]
@[simp] def f280r19 : List ROper := [
  ⟨some 93, .mv (.t 13), none⟩,
  ⟨some 1, .mv (.t 93), none⟩]
@[simp] def f280r20 : List ROper := [
  ⟨some 95, .mv (.t 0), none⟩,
  ⟨some 96, .mv (.t 1), none⟩,
  ⟨some 97, .mv (.t 2), none⟩,
  ⟨some 98, .mv (.t 11), none⟩,
  ⟨some 99, .call 291 [(.t 95), (.t 96), (.t 97), (.t 98)], none⟩,
  ⟨some 94, .mv (.t 99), none⟩,
  ⟨some 100, .extract (.t 94) 0, none⟩,
  ⟨some 101, .extract (.t 94) 1, none⟩,
  ⟨some 14, .mv (.t 100), none⟩,
  ⟨some 15, .mv (.t 101), none⟩]
@[simp] def f280r21 : List ROper := [
  ⟨some 102, .mv (.t 15), none⟩,
  ⟨some 9, .mv (.t 102), none⟩]
@[simp] def f280r22 : List ROper := [
  ⟨some 103, .mv (.t 14), none⟩,
  ⟨some 104, .mv (.t 1), none⟩,
  ⟨some 105, .bin .sub (.t 103) (.t 104), none⟩,
  ⟨some 106, .mv (.t 2), none⟩,
  ⟨some 107, .mv (.t 14), none⟩,
  ⟨some 108, .bin .sub (.t 106) (.t 107), none⟩,
  ⟨some 16, .mv (.t 105), none⟩,
  ⟨some 17, .mv (.t 108), none⟩]
@[simp] def f280r23 : List ROper := [
  ⟨some 109, .mv (.t 10), none⟩,
  ⟨some 110, .bin .quo (.t 109) (.c (.int .i64 (.ofNat 8))), none⟩,
  ⟨some 18, .mv (.t 110), none⟩]
@[simp] def f280r24 : List ROper := [
  ⟨some 111, .mv (.t 16), none⟩,
  ⟨some 112, .mv (.t 17), none⟩,
  ⟨some 113, .bin .lss (.t 111) (.t 112), none⟩]
@[simp] def f280r25 : List ROper := [
  ⟨some 114, .mv (.t 16), none⟩,
  ⟨some 115, .mv (.t 18), none⟩,
  ⟨some 116, .bin .geq (.t 114) (.t 115), none⟩,
  ⟨some 8, .mv (.t 116), none⟩]
@[simp] def f280r26 : List ROper := [
  ⟨some 117, .mv (.t 0), none⟩,
  ⟨some 118, .mv (.t 1), none⟩,
  ⟨some 119, .mv (.t 14), none⟩,
  ⟨some 120, .mv (.t 3), none⟩,
  ⟨some 121, .call 280 [(.t 117), (.t 118), (.t 119), (.t 120)], none⟩]
@[simp] def f280r27 : List ROper := [
  ⟨some 122, .mv (.t 14), none⟩,
  ⟨some 123, .bin .add (.t 122) (.c (.int .i64 (.ofNat 1))), none⟩,
  ⟨some 1, .mv (.t 123), none⟩]
@[simp] def f280r28 : List ROper := [
  ⟨some 124, .mv (.t 17), none⟩,
  ⟨some 125, .mv (.t 18), none⟩,
  ⟨some 126, .bin .geq (.t 124) (.t 125), none⟩,
  ⟨some 8, .mv (.t 126), none⟩]
@[simp] def f280r29 : List ROper := [
  ⟨some 127, .mv (.t 0), none⟩,
  ⟨some 128, .mv (.t 14), none⟩,
  ⟨some 129, .bin .add (.t 128) (.c (.int .i64 (.ofNat 1))), none⟩,
  ⟨some 130, .mv (.t 2), none⟩,
  ⟨some 131, .mv (.t 3), none⟩,
  ⟨some 132, .call 280 [(.t 127), (.t 129), (.t 130), (.t 131)], none⟩]
@[simp] def f280r30 : List ROper := [
  ⟨some 133, .mv (.t 14), none⟩,
  ⟨some 2, .mv (.t 133), none⟩]
def f280B0 : RC := (.block 1 (.seq (.region f280r2 [0, 1, 2, 3, 8, 9, 10]) (.seq (.seq (.region f280r3 [0, 1, 2, 3, 8, 9, 10, 23]) (.cond (.t 23) (.seq (.region f280r4 []) .ret) .skip)) (.seq (.seq (.region f280r5 [0, 1, 2, 3, 8, 9, 10, 29]) (.cond (.t 29) (.seq (.region f280r6 []) .ret) .skip)) (.seq (.seq (.region f280r7 [0, 1, 2, 3, 8, 9, 10, 35]) (.cond (.t 35) (.seq (.region f280r8 [0, 1, 2, 3, 8, 9, 10]) (.region f280r9 [0, 1, 2, 3, 8, 9, 10])) .skip)) (.seq (.region f280r10 [0, 1, 2, 3, 8, 9, 10, 11, 12]) (.seq (.seq (.region f280r11 [0, 1, 2, 3, 8, 9, 10, 11, 12, 50]) (.cond (.t 50) (.seq (.region f280r12 [0, 1, 2, 3, 8, 9, 10, 11]) (.seq (.region f280r13 [0, 1, 2, 3, 8, 9, 10, 11]) (.region f280r14 [0, 1, 2, 3, 8, 9, 10, 11, 12]))) .skip)) (.seq (.seq (.region f280r15 [0, 1, 2, 3, 8, 9, 10, 11, 68]) (.cond (.t 68) (.seq (.region f280r16 [0, 1, 2, 3, 8, 9, 10, 11, 72]) (.cond (.t 72) .ret .skip)) .skip)) (.seq (.seq (.dregion f280r17 [] [] [0, 1, 2, 3, 8, 9, 10, 11, 87]) (.cond (.t 87) (.seq (.region f280r18 [0, 2, 3, 8, 9, 13]) (.seq (.region f280r19 [0, 1, 2, 3, 8, 9]) (.exit 1))) .skip)) (.seq (.region f280r20 [0, 1, 2, 3, 10, 14, 15]) (.seq (.region f280r21 [0, 1, 2, 3, 9, 10, 14]) (.seq (.region f280r22 [0, 1, 2, 3, 9, 10, 14, 16, 17]) (.seq (.region f280r23 [0, 1, 2, 3, 9, 14, 16, 17, 18]) (.seq (.region f280r24 [0, 1, 2, 3, 9, 14, 16, 17, 18, 113]) (.cond (.t 113) (.seq (.region f280r25 [0, 1, 2, 3, 8, 9, 14]) (.seq (.region f280r26 [0, 2, 3, 8, 9, 14]) (.region f280r27 [0, 1, 2, 3, 8, 9]))) (.seq (.region f280r28 [0, 1, 2, 3, 8, 9, 14]) (.seq (.region f280r29 [0, 1, 3, 8, 9, 14]) (.region f280r30 [0, 1, 2, 3, 8, 9]))))))))))))))))))
def f280L0 : RC := .loop [0, 1, 2, 3, 8, 9] f280B0
def f280 : RFunc := ⟨[], (.seq (.region f280r0 [0, 1, 2, 3, 8]) (.seq (.region f280r1 [0, 1, 2, 3, 8, 9]) (.block 0 f280L0))), true⟩

/-! math/bits.Len -/
@[simp] def f281r0 : List ROper := [
  ⟨some 2, .mv (.c (.int .i64 (.ofNat 0))), none⟩]
@[simp] def f281r1 : List ROper := [
  ⟨some 3, .mv (.t 0), none⟩,
  ⟨some 4, .i2i .u32 (.t 3), none⟩,
  ⟨some 5, .call 292 [(.t 4)], none⟩,
  ⟨some 2, .mv (.t 5), none⟩]
@[simp] def f281r2 : List ROper := [
  ⟨some 6, .mv (.t 0), none⟩,
  ⟨some 7, .call 293 [(.t 6)], none⟩,
  ⟨some 2, .mv (.t 7), none⟩]
def f281 : RFunc := ⟨[.t 2], (.seq (.region f281r0 [0]) (.seq (.cond (.c (.bool false)) (.seq (.region f281r1 [2]) .ret) .skip) (.seq (.region f281r2 [2]) .ret))), true⟩

/-! slices.IndexFunc[[]quire/api.Item,quire/api.Item] -/
@[simp] def f282r0 : List ROper := [
  ⟨some 4, .mv (.c (.int .i64 (.ofNat 0))), none⟩]
@[simp] def f282r1 : List ROper := [
  ⟨some 6, .mv (.t 0), none⟩,
  ⟨some 7, .len .slice (.t 6), none⟩,
  ⟨some 8, .mv (.c (.int .i64 (.ofNat 0))), none⟩]
@[simp] def f282r2 : List ROper := [
  ⟨some 9, .bin .lss (.t 8) (.t 7), none⟩]
@[simp] def f282r3 : List ROper := [
  ⟨some 10, .mv (.t 8), none⟩,
  ⟨some 5, .mv (.t 10), none⟩]
@[simp] def f282r4 : List ROper := [
  ⟨some 11, .mv (.t 1), none⟩,
  ⟨some 12, .mv (.t 0), none⟩,
  ⟨some 13, .mv (.t 5), none⟩,
  ⟨some 14, .iaddr 8 (.t 12) (.t 13), none⟩,
  ⟨some 15, .load 8 true (.t 14), none⟩,
  ⟨some 16, .callv (.t 11) [(.t 15)], none⟩]
@[simp] def f282r5 : List ROper := [
  ⟨some 17, .mv (.t 5), none⟩,
  ⟨some 4, .mv (.t 17), none⟩]
@[simp] def f282r6 : List ROper := [
  ⟨some 18, .bin .add (.t 8) (.c (.int .i64 (.ofNat 1))), none⟩,
  ⟨some 8, .mv (.t 18), none⟩]
def f282B0 : RC := (.seq (.region f282r2 [0, 1, 7, 8, 9]) (.seq (.cond (.t 9) .skip (.exit 0)) (.seq (.block 1 (.seq (.region f282r3 [0, 1, 5, 7, 8]) (.seq (.region f282r4 [0, 1, 5, 7, 8, 16]) (.cond (.t 16) (.seq (.region f282r5 [4]) .ret) .skip)))) (.region f282r6 [0, 1, 7, 8]))))
def f282L0 : RC := .loop [0, 1, 7, 8] f282B0
@[simp] def f282r7 : List ROper := [
  ⟨some 4, .mv (.c (.int .i64 (.negSucc 0))), none⟩]
def f282 : RFunc := ⟨[.t 4], (.seq (.region f282r0 [0, 1]) (.seq (.seq (.region f282r1 [0, 1, 7, 8]) (.block 0 f282L0)) (.seq (.region f282r7 [4]) .ret))), false⟩

/-! slices.insertionSortOrdered[int] -/
@[simp] def f283r0 : List ROper := [
  ⟨some 8, .mv (.t 1), none⟩,
  ⟨some 9, .bin .add (.t 8) (.c (.int .i64 (.ofNat 1))), none⟩,
  ⟨some 6, .mv (.t 9), none⟩]
@[simp] def f283r1 : List ROper := [
  ⟨some 10, .mv (.t 6), none⟩,
  ⟨some 11, .mv (.t 2), none⟩,
  ⟨some 12, .bin .lss (.t 10) (.t 11), none⟩]
@[simp] def f283r2 : List ROper := [
  ⟨some 15, .mv (.t 6), none⟩,
  ⟨some 7, .mv (.t 15), none⟩]
@[simp] def f283r3 : List ROper := [
  ⟨some 16, .mv (.t 7), none⟩,
  ⟨some 17, .mv (.t 1), none⟩,
  ⟨some 18, .bin .gtr (.t 16) (.t 17), none⟩,
  ⟨some 19, .mv (.t 18), none⟩,
  ⟨some 20, .mv (.t 0), some (19, true)⟩,
  ⟨some 21, .mv (.t 7), some (19, true)⟩,
  ⟨some 22, .iaddr 1 (.t 20) (.t 21), some (19, true)⟩,
  ⟨some 23, .load 1 false (.t 22), some (19, true)⟩,
  ⟨some 24, .mv (.t 0), some (19, true)⟩,
  ⟨some 25, .mv (.t 7), some (19, true)⟩,
  ⟨some 26, .bin .sub (.t 25) (.c (.int .i64 (.ofNat 1))), some (19, true)⟩,
  ⟨some 27, .iaddr 1 (.t 24) (.t 26), some (19, true)⟩,
  ⟨some 28, .load 1 false (.t 27), some (19, true)⟩,
  ⟨some 29, .call 289 [(.t 23), (.t 28)], some (19, true)⟩,
  ⟨some 30, .pick (.t 19) (.t 29) (.c (.bool false)), none⟩]
@[simp] def f283r4 : List ROper := [
  ⟨some 33, .mv (.t 0), none⟩,
  ⟨some 34, .mv (.t 7), none⟩,
  ⟨some 35, .mv (.t 0), none⟩,
  ⟨some 36, .mv (.t 7), none⟩,
  ⟨some 37, .bin .sub (.t 36) (.c (.int .i64 (.ofNat 1))), none⟩,
  ⟨some 38, .mv (.t 0), none⟩,
  ⟨some 39, .mv (.t 7), none⟩,
  ⟨some 40, .bin .sub (.t 39) (.c (.int .i64 (.ofNat 1))), none⟩,
  ⟨some 41, .iaddr 1 (.t 38) (.t 40), none⟩,
  ⟨some 42, .load 1 false (.t 41), none⟩,
  ⟨some 43, .mv (.t 0), none⟩,
  ⟨some 44, .mv (.t 7), none⟩,
  ⟨some 45, .iaddr 1 (.t 43) (.t 44), none⟩,
  ⟨some 46, .load 1 false (.t 45), none⟩,
  ⟨some 47, .iaddr 1 (.t 33) (.t 34), none⟩,
  ⟨none, .store 1 (.t 47) (.t 42), none⟩,
  ⟨some 48, .iaddr 1 (.t 35) (.t 37), none⟩,
  ⟨none, .store 1 (.t 48) (.t 46), none⟩]
@[simp] def f283r5 : List ROper := [
  ⟨some 31, .mv (.t 7), none⟩,
  ⟨some 32, .bin .sub (.t 31) (.c (.int .i64 (.ofNat 1))), none⟩,
  ⟨some 7, .mv (.t 32), none⟩]
def f283B0 : RC := (.seq (.seq (.dregion f283r3 [] [] [0, 1, 2, 6, 7, 30]) (.cond (.t 30) .skip (.exit 2))) (.seq (.block 3 (.dregion f283r4 [] [] [0, 1, 2, 6, 7])) (.region f283r5 [0, 1, 2, 6, 7])))
def f283L0 : RC := .loop [0, 1, 2, 6, 7] f283B0
@[simp] def f283r6 : List ROper := [
  ⟨some 13, .mv (.t 6), none⟩,
  ⟨some 14, .bin .add (.t 13) (.c (.int .i64 (.ofNat 1))), none⟩,
  ⟨some 6, .mv (.t 14), none⟩]
def f283B1 : RC := (.seq (.seq (.region f283r1 [0, 1, 2, 6, 12]) (.cond (.t 12) .skip (.exit 0))) (.seq (.block 1 (.seq (.region f283r2 [0, 1, 2, 6, 7]) (.block 2 f283L0))) (.region f283r6 [0, 1, 2, 6])))
def f283L1 : RC := .loop [0, 1, 2, 6] f283B1
def f283 : RFunc := ⟨[], (.seq (.region f283r0 [0, 1, 2, 6]) (.block 0 f283L1)), true⟩

/-! slices.heapSortOrdered[int] -/
@[simp] def f284r0 : List ROper := [
  ⟨some 11, .mv (.t 1), none⟩,
  ⟨some 6, .mv (.t 11), none⟩]
@[simp] def f284r1 : List ROper := [
  ⟨some 7, .mv (.c (.int .i64 (.ofNat 0))), none⟩]
@[simp] def f284r2 : List ROper := [
  ⟨some 12, .mv (.t 2), none⟩,
  ⟨some 13, .mv (.t 1), none⟩,
  ⟨some 14, .bin .sub (.t 12) (.t 13), none⟩,
  ⟨some 8, .mv (.t 14), none⟩]
@[simp] def f284r3 : List ROper := [
  ⟨some 15, .mv (.t 8), none⟩,
  ⟨some 16, .bin .sub (.t 15) (.c (.int .i64 (.ofNat 1))), none⟩,
  ⟨some 17, .bin .quo (.t 16) (.c (.int .i64 (.ofNat 2))), none⟩,
  ⟨some 9, .mv (.t 17), none⟩]
@[simp] def f284r4 : List ROper := [
  ⟨some 18, .mv (.t 9), none⟩,
  ⟨some 19, .bin .geq (.t 18) (.c (.int .i64 (.ofNat 0))), none⟩]
@[simp] def f284r5 : List ROper := [
  ⟨some 22, .mv (.t 0), none⟩,
  ⟨some 23, .mv (.t 9), none⟩,
  ⟨some 24, .mv (.t 8), none⟩,
  ⟨some 25, .mv (.t 6), none⟩,
  ⟨some 26, .call 294 [(.t 22), (.t 23), (.t 24), (.t 25)], none⟩]
@[simp] def f284r6 : List ROper := [
  ⟨some 20, .mv (.t 9), none⟩,
  ⟨some 21, .bin .sub (.t 20) (.c (.int .i64 (.ofNat 1))), none⟩,
  ⟨some 9, .mv (.t 21), none⟩]
def f284B0 : RC := (.seq (.seq (.region f284r4 [0, 6, 7, 8, 9, 19]) (.cond (.t 19) .skip (.exit 0))) (.seq (.block 1 (.region f284r5 [0, 6, 7, 8, 9])) (.region f284r6 [0, 6, 7, 8, 9])))
def f284L0 : RC := .loop [0, 6, 7, 8, 9] f284B0
@[simp] def f284r7 : List ROper := [
  ⟨some 27, .mv (.t 8), none⟩,
  ⟨some 28, .bin .sub (.t 27) (.c (.int .i64 (.ofNat 1))), none⟩,
  ⟨some 10, .mv (.t 28), none⟩]
@[simp] def f284r8 : List ROper := [
  ⟨some 29, .mv (.t 10), none⟩,
  ⟨some 30, .bin .geq (.t 29) (.c (.int .i64 (.ofNat 0))), none⟩]
@[simp] def f284r9 : List ROper := [
  ⟨some 33, .mv (.t 0), none⟩,
  ⟨some 34, .mv (.t 6), none⟩,
  ⟨some 35, .mv (.t 0), none⟩,
  ⟨some 36, .mv (.t 6), none⟩,
  ⟨some 37, .mv (.t 10), none⟩,
  ⟨some 38, .bin .add (.t 36) (.t 37), none⟩,
  ⟨some 39, .mv (.t 0), none⟩,
  ⟨some 40, .mv (.t 6), none⟩,
  ⟨some 41, .mv (.t 10), none⟩,
  ⟨some 42, .bin .add (.t 40) (.t 41), none⟩,
  ⟨some 43, .iaddr 1 (.t 39) (.t 42), none⟩,
  ⟨some 44, .load 1 false (.t 43), none⟩,
  ⟨some 45, .mv (.t 0), none⟩,
  ⟨some 46, .mv (.t 6), none⟩,
  ⟨some 47, .iaddr 1 (.t 45) (.t 46), none⟩,
  ⟨some 48, .load 1 false (.t 47), none⟩,
  ⟨some 49, .iaddr 1 (.t 33) (.t 34), none⟩,
  ⟨none, .store 1 (.t 49) (.t 44), none⟩,
  ⟨some 50, .iaddr 1 (.t 35) (.t 38), none⟩,
  ⟨none, .store 1 (.t 50) (.t 48), none⟩]
@[simp] def f284r10 : List ROper := [
  ⟨some 51, .mv (.t 0), none⟩,
  ⟨some 52, .mv (.t 7), none⟩,
  ⟨some 53, .mv (.t 10), none⟩,
  ⟨some 54, .mv (.t 6), none⟩,
  ⟨some 55, .call 294 [(.t 51), (.t 52), (.t 53), (.t 54)], none⟩]
@[simp] def f284r11 : List ROper := [
  ⟨some 31, .mv (.t 10), none⟩,
  ⟨some 32, .bin .sub (.t 31) (.c (.int .i64 (.ofNat 1))), none⟩,
  ⟨some 10, .mv (.t 32), none⟩]
def f284B1 : RC := (.seq (.seq (.region f284r8 [0, 6, 7, 10, 30]) (.cond (.t 30) .skip (.exit 2))) (.seq (.block 3 (.seq (.dregion f284r9 [] [] [0, 6, 7, 10]) (.region f284r10 [0, 6, 7, 10]))) (.region f284r11 [0, 6, 7, 10])))
def f284L1 : RC := .loop [0, 6, 7, 10] f284B1
def f284 : RFunc := ⟨[], (.seq (.region f284r0 [0, 1, 2, 6]) (.seq (.region f284r1 [0, 1, 2, 6, 7]) (.seq (.region f284r2 [0, 6, 7, 8]) (.seq (.seq (.region f284r3 [0, 6, 7, 8, 9]) (.block 0 f284L0)) (.seq (.region f284r7 [0, 6, 7, 10]) (.block 2 f284L1)))))), true⟩

/-! slices.breakPatternsOrdered[int] -/
@[simp] def f285r0 : List ROper := [
  ⟨some 11, .mv (.t 2), none⟩,
  ⟨some 12, .mv (.t 1), none⟩,
  ⟨some 13, .bin .sub (.t 11) (.t 12), none⟩,
  ⟨some 6, .mv (.t 13), none⟩]
@[simp] def f285r1 : List ROper := [
  ⟨some 14, .mv (.t 6), none⟩,
  ⟨some 15, .bin .geq (.t 14) (.c (.int .i64 (.ofNat 8))), none⟩]
@[simp] def f285r2 : List ROper := [
  ⟨some 16, .mv (.t 6), none⟩,
  ⟨some 17, .i2i .u64 (.t 16), none⟩,
  ⟨some 7, .alloc [(.int .u64 (.ofNat 0))], none⟩,
  ⟨none, .store 1 (.t 7) (.t 17), none⟩]
@[simp] def f285r3 : List ROper := [
  ⟨some 18, .mv (.t 6), none⟩,
  ⟨some 19, .call 295 [(.t 18)], none⟩,
  ⟨some 8, .mv (.t 19), none⟩]
@[simp] def f285r4 : List ROper := [
  ⟨some 20, .mv (.t 1), none⟩,
  ⟨some 21, .mv (.t 6), none⟩,
  ⟨some 22, .bin .quo (.t 21) (.c (.int .i64 (.ofNat 4))), none⟩,
  ⟨some 23, .bin .mul (.t 22) (.c (.int .i64 (.ofNat 2))), none⟩,
  ⟨some 24, .bin .add (.t 20) (.t 23), none⟩,
  ⟨some 25, .bin .sub (.t 24) (.c (.int .i64 (.ofNat 1))), none⟩,
  ⟨some 9, .mv (.t 25), none⟩]
@[simp] def f285r5 : List ROper := [
  ⟨some 26, .mv (.t 9), none⟩,
  ⟨some 27, .mv (.t 1), none⟩,
  ⟨some 28, .mv (.t 6), none⟩,
  ⟨some 29, .bin .quo (.t 28) (.c (.int .i64 (.ofNat 4))), none⟩,
  ⟨some 30, .bin .mul (.t 29) (.c (.int .i64 (.ofNat 2))), none⟩,
  ⟨some 31, .bin .add (.t 27) (.t 30), none⟩,
  ⟨some 32, .bin .add (.t 31) (.c (.int .i64 (.ofNat 1))), none⟩,
  ⟨some 33, .bin .leq (.t 26) (.t 32), none⟩]
@[simp] def f285r6 : List ROper := [
  ⟨some 36, .call 296 [(.t 7)], none⟩,
  ⟨some 37, .mv (.t 8), none⟩,
  ⟨some 38, .bin .sub (.t 37) (.c (.int .u64 (.ofNat 1))), none⟩,
  ⟨some 39, .bin .and (.t 36) (.t 38), none⟩,
  ⟨some 40, .i2i .i64 (.t 39), none⟩,
  ⟨some 10, .mv (.t 40), none⟩]
@[simp] def f285r7 : List ROper := [
  ⟨some 41, .mv (.t 10), none⟩,
  ⟨some 42, .mv (.t 6), none⟩,
  ⟨some 43, .bin .geq (.t 41) (.t 42), none⟩]
@[simp] def f285r8 : List ROper := [
  ⟨some 44, .mv (.t 10), none⟩,
  ⟨some 45, .mv (.t 6), none⟩,
  ⟨some 46, .bin .sub (.t 44) (.t 45), none⟩,
  ⟨some 10, .mv (.t 46), none⟩]
@[simp] def f285r9 : List ROper := [
  ⟨some 47, .mv (.t 0), none⟩,
  ⟨some 48, .mv (.t 9), none⟩,
  ⟨some 49, .mv (.t 0), none⟩,
  ⟨some 50, .mv (.t 1), none⟩,
  ⟨some 51, .mv (.t 10), none⟩,
  ⟨some 52, .bin .add (.t 50) (.t 51), none⟩,
  ⟨some 53, .mv (.t 0), none⟩,
  ⟨some 54, .mv (.t 1), none⟩,
  ⟨some 55, .mv (.t 10), none⟩,
  ⟨some 56, .bin .add (.t 54) (.t 55), none⟩,
  ⟨some 57, .iaddr 1 (.t 53) (.t 56), none⟩,
  ⟨some 58, .load 1 false (.t 57), none⟩,
  ⟨some 59, .mv (.t 0), none⟩,
  ⟨some 60, .mv (.t 9), none⟩,
  ⟨some 61, .iaddr 1 (.t 59) (.t 60), none⟩,
  ⟨some 62, .load 1 false (.t 61), none⟩,
  ⟨some 63, .iaddr 1 (.t 47) (.t 48), none⟩,
  ⟨none, .store 1 (.t 63) (.t 58), none⟩,
  ⟨some 64, .iaddr 1 (.t 49) (.t 52), none⟩,
  ⟨none, .store 1 (.t 64) (.t 62), none⟩]
@[simp] def f285r10 : List ROper := [
  ⟨some 34, .mv (.t 9), none⟩,
  ⟨some 35, .bin .add (.t 34) (.c (.int .i64 (.ofNat 1))), none⟩,
  ⟨some 9, .mv (.t 35), none⟩]
def f285B0 : RC := (.seq (.seq (.region f285r5 [0, 1, 6, 7, 8, 9, 33]) (.cond (.t 33) .skip (.exit 0))) (.seq (.block 1 (.seq (.region f285r6 [0, 1, 6, 7, 8, 9, 10]) (.seq (.seq (.region f285r7 [0, 1, 6, 7, 8, 9, 10, 43]) (.cond (.t 43) (.region f285r8 [0, 1, 6, 7, 8, 9, 10]) .skip)) (.dregion f285r9 [] [] [0, 1, 6, 7, 8, 9])))) (.region f285r10 [0, 1, 6, 7, 8, 9])))
def f285L0 : RC := .loop [0, 1, 6, 7, 8, 9] f285B0
def f285 : RFunc := ⟨[], (.seq (.region f285r0 [0, 1, 6]) (.seq (.region f285r1 [0, 1, 6, 15]) (.cond (.t 15) (.seq (.region f285r2 [0, 1, 6, 7]) (.seq (.region f285r3 [0, 1, 6, 7, 8]) (.seq (.region f285r4 [0, 1, 6, 7, 8, 9]) (.block 0 f285L0)))) .skip))), true⟩

/-! slices.choosePivotOrdered[int] -/
@[simp] def f286r0 : List ROper := [
  ⟨some 6, .mv (.c (.int .i64 (.ofNat 0))), none⟩,
  ⟨some 7, .mv (.c (.int .i64 (.ofNat 0))), none⟩]
@[simp] def f286r1 : List ROper := [
  ⟨some 13, .mv (.t 2), none⟩,
  ⟨some 14, .mv (.t 1), none⟩,
  ⟨some 15, .bin .sub (.t 13) (.t 14), none⟩,
  ⟨some 8, .mv (.t 15), none⟩]
@[simp] def f286r2 : List ROper := [
  ⟨some 9, .alloc [(.int .i64 (.ofNat 0))], none⟩]
@[simp] def f286r3 : List ROper := [
  ⟨some 16, .mv (.t 1), none⟩,
  ⟨some 17, .mv (.t 8), none⟩,
  ⟨some 18, .bin .quo (.t 17) (.c (.int .i64 (.ofNat 4))), none⟩,
  ⟨some 19, .bin .mul (.t 18) (.c (.int .i64 (.ofNat 1))), none⟩,
  ⟨some 20, .bin .add (.t 16) (.t 19), none⟩,
  ⟨some 10, .mv (.t 20), none⟩]
@[simp] def f286r4 : List ROper := [
  ⟨some 21, .mv (.t 1), none⟩,
  ⟨some 22, .mv (.t 8), none⟩,
  ⟨some 23, .bin .quo (.t 22) (.c (.int .i64 (.ofNat 4))), none⟩,
  ⟨some 24, .bin .mul (.t 23) (.c (.int .i64 (.ofNat 2))), none⟩,
  ⟨some 25, .bin .add (.t 21) (.t 24), none⟩,
  ⟨some 11, .mv (.t 25), none⟩]
@[simp] def f286r5 : List ROper := [
  ⟨some 26, .mv (.t 1), none⟩,
  ⟨some 27, .mv (.t 8), none⟩,
  ⟨some 28, .bin .quo (.t 27) (.c (.int .i64 (.ofNat 4))), none⟩,
  ⟨some 29, .bin .mul (.t 28) (.c (.int .i64 (.ofNat 3))), none⟩,
  ⟨some 30, .bin .add (.t 26) (.t 29), none⟩,
  ⟨some 12, .mv (.t 30), none⟩]
@[simp] def f286r6 : List ROper := [
  ⟨some 31, .mv (.t 8), none⟩,
  ⟨some 32, .bin .geq (.t 31) (.c (.int .i64 (.ofNat 8))), none⟩]
@[simp] def f286r7 : List ROper := [
  ⟨some 33, .mv (.t 8), none⟩,
  ⟨some 34, .bin .geq (.t 33) (.c (.int .i64 (.ofNat 50))), none⟩]
@[simp] def f286r8 : List ROper := [
  ⟨some 35, .mv (.t 0), none⟩,
  ⟨some 36, .mv (.t 10), none⟩,
  ⟨some 37, .call 297 [(.t 35), (.t 36), (.t 9)], none⟩,
  ⟨some 10, .mv (.t 37), none⟩]
@[simp] def f286r9 : List ROper := [
  ⟨some 38, .mv (.t 0), none⟩,
  ⟨some 39, .mv (.t 11), none⟩,
  ⟨some 40, .call 297 [(.t 38), (.t 39), (.t 9)], none⟩,
  ⟨some 11, .mv (.t 40), none⟩]
@[simp] def f286r10 : List ROper := [
  ⟨some 41, .mv (.t 0), none⟩,
  ⟨some 42, .mv (.t 12), none⟩,
  ⟨some 43, .call 297 [(.t 41), (.t 42), (.t 9)], none⟩,
  ⟨some 12, .mv (.t 43), none⟩]
@[simp] def f286r11 : List ROper := [
  ⟨some 44, .mv (.t 0), none⟩,
  ⟨some 45, .mv (.t 10), none⟩,
  ⟨some 46, .mv (.t 11), none⟩,
  ⟨some 47, .mv (.t 12), none⟩,
  ⟨some 48, .call 298 [(.t 44), (.t 45), (.t 46), (.t 47), (.t 9)], none⟩,
  ⟨some 11, .mv (.t 48), none⟩]
@[simp] def f286r12 : List ROper := [
  ⟨some 49, .load 1 false (.t 9), none⟩]
@[simp] def f286r13 : List ROper := [
  ⟨some 52, .bin .eql (.t 49) (.c (.int .i64 (.ofNat 0))), none⟩,
  ⟨some 51, .mv (.t 52), none⟩]
@[simp] def f286r14 : List ROper := [
  ⟨some 53, .mv (.t 11), none⟩,
  ⟨some 6, .mv (.t 53), none⟩,
  ⟨some 7, .mv (.c (.int .i64 (.ofNat 1))), none⟩]
@[simp] def f286r15 : List ROper := [
  ⟨some 55, .bin .eql (.t 49) (.c (.int .i64 (.ofNat 12))), none⟩,
  ⟨some 54, .mv (.t 55), none⟩]
@[simp] def f286r16 : List ROper := [
  ⟨some 56, .mv (.t 11), none⟩,
  ⟨some 6, .mv (.t 56), none⟩,
  ⟨some 7, .mv (.c (.int .i64 (.ofNat 2))), none⟩]
@[simp] def f286r17 : List ROper := [
  ⟨some 50, .mv (.t 11), none⟩,
  ⟨some 6, .mv (.t 50), none⟩,
  ⟨some 7, .mv (.c (.int .i64 (.ofNat 0))), none⟩]
def f286 : RFunc := ⟨[.t 6, .t 7], (.seq (.region f286r0 [0, 1, 2]) (.seq (.region f286r1 [0, 1, 8]) (.seq (.region f286r2 [0, 1, 8, 9]) (.seq (.region f286r3 [0, 1, 8, 9, 10]) (.seq (.region f286r4 [0, 1, 8, 9, 10, 11]) (.seq (.region f286r5 [0, 8, 9, 10, 11, 12]) (.seq (.seq (.region f286r6 [0, 8, 9, 10, 11, 12, 32]) (.cond (.t 32) (.seq (.seq (.region f286r7 [0, 9, 10, 11, 12, 34]) (.cond (.t 34) (.seq (.region f286r8 [0, 9, 10, 11, 12]) (.seq (.region f286r9 [0, 9, 10, 11, 12]) (.region f286r10 [0, 9, 10, 11, 12]))) .skip)) (.region f286r11 [9, 11])) .skip)) (.seq (.region f286r12 [11, 49]) (.block 0 (.seq (.region f286r13 [11, 49, 51]) (.cond (.t 51) (.seq (.region f286r14 [6, 7]) .ret) (.seq (.region f286r15 [11, 54]) (.cond (.t 54) (.seq (.region f286r16 [6, 7]) .ret) (.seq (.region f286r17 [6, 7]) .ret)))))))))))))), true⟩

/-! slices.reverseRangeOrdered[int] -/
@[simp] def f287r0 : List ROper := [
  ⟨some 8, .mv (.t 1), none⟩,
  ⟨some 6, .mv (.t 8), none⟩]
@[simp] def f287r1 : List ROper := [
  ⟨some 9, .mv (.t 2), none⟩,
  ⟨some 10, .bin .sub (.t 9) (.c (.int .i64 (.ofNat 1))), none⟩,
  ⟨some 7, .mv (.t 10), none⟩]
@[simp] def f287r2 : List ROper := [
  ⟨some 11, .mv (.t 6), none⟩,
  ⟨some 12, .mv (.t 7), none⟩,
  ⟨some 13, .bin .lss (.t 11) (.t 12), none⟩]
@[simp] def f287r3 : List ROper := [
  ⟨some 14, .mv (.t 0), none⟩,
  ⟨some 15, .mv (.t 6), none⟩,
  ⟨some 16, .mv (.t 0), none⟩,
  ⟨some 17, .mv (.t 7), none⟩,
  ⟨some 18, .mv (.t 0), none⟩,
  ⟨some 19, .mv (.t 7), none⟩,
  ⟨some 20, .iaddr 1 (.t 18) (.t 19), none⟩,
  ⟨some 21, .load 1 false (.t 20), none⟩,
  ⟨some 22, .mv (.t 0), none⟩,
  ⟨some 23, .mv (.t 6), none⟩,
  ⟨some 24, .iaddr 1 (.t 22) (.t 23), none⟩,
  ⟨some 25, .load 1 false (.t 24), none⟩,
  ⟨some 26, .iaddr 1 (.t 14) (.t 15), none⟩,
  ⟨none, .store 1 (.t 26) (.t 21), none⟩,
  ⟨some 27, .iaddr 1 (.t 16) (.t 17), none⟩,
  ⟨none, .store 1 (.t 27) (.t 25), none⟩]
@[simp] def f287r4 : List ROper := [
  ⟨some 28, .mv (.t 6), none⟩,
  ⟨some 29, .bin .add (.t 28) (.c (.int .i64 (.ofNat 1))), none⟩,
  ⟨some 6, .mv (.t 29), none⟩]
@[simp] def f287r5 : List ROper := [
  ⟨some 30, .mv (.t 7), none⟩,
  ⟨some 31, .bin .sub (.t 30) (.c (.int .i64 (.ofNat 1))), none⟩,
  ⟨some 7, .mv (.t 31), none⟩]
def f287B0 : RC := (.seq (.seq (.region f287r2 [0, 6, 7, 13]) (.cond (.t 13) .skip (.exit 0))) (.block 1 (.seq (.dregion f287r3 [] [] [0, 6, 7]) (.seq (.region f287r4 [0, 6, 7]) (.region f287r5 [0, 6, 7])))))
def f287L0 : RC := .loop [0, 6, 7] f287B0
def f287 : RFunc := ⟨[], (.seq (.region f287r0 [0, 2, 6]) (.seq (.region f287r1 [0, 6, 7]) (.block 0 f287L0))), true⟩

/-! slices.partialInsertionSortOrdered[int] -/
@[simp] def f288r0 : List ROper := [
  ⟨some 6, .mv (.c (.bool false)), none⟩]
@[simp] def f288r1 : List ROper := [
  ⟨some 11, .mv (.t 1), none⟩,
  ⟨some 12, .bin .add (.t 11) (.c (.int .i64 (.ofNat 1))), none⟩,
  ⟨some 7, .mv (.t 12), none⟩]
@[simp] def f288r2 : List ROper := [
  ⟨some 8, .mv (.c (.int .i64 (.ofNat 0))), none⟩]
@[simp] def f288r3 : List ROper := [
  ⟨some 13, .mv (.t 8), none⟩,
  ⟨some 14, .bin .lss (.t 13) (.c (.int .i64 (.ofNat 5))), none⟩]
@[simp] def f288r4 : List ROper := [
  ⟨some 17, .mv (.t 7), none⟩,
  ⟨some 18, .mv (.t 2), none⟩,
  ⟨some 19, .bin .lss (.t 17) (.t 18), none⟩,
  ⟨some 20, .mv (.t 19), none⟩,
  ⟨some 21, .mv (.t 0), some (20, true)⟩,
  ⟨some 22, .mv (.t 7), some (20, true)⟩,
  ⟨some 23, .iaddr 1 (.t 21) (.t 22), some (20, true)⟩,
  ⟨some 24, .load 1 false (.t 23), some (20, true)⟩,
  ⟨some 25, .mv (.t 0), some (20, true)⟩,
  ⟨some 26, .mv (.t 7), some (20, true)⟩,
  ⟨some 27, .bin .sub (.t 26) (.c (.int .i64 (.ofNat 1))), some (20, true)⟩,
  ⟨some 28, .iaddr 1 (.t 25) (.t 27), some (20, true)⟩,
  ⟨some 29, .load 1 false (.t 28), some (20, true)⟩,
  ⟨some 30, .call 289 [(.t 24), (.t 29)], some (20, true)⟩,
  ⟨some 31, .un .not (.t 30), some (20, true)⟩,
  ⟨some 32, .pick (.t 20) (.t 31) (.c (.bool false)), none⟩]
@[simp] def f288r5 : List ROper := [
  ⟨some 33, .mv (.t 7), none⟩,
  ⟨some 34, .bin .add (.t 33) (.c (.int .i64 (.ofNat 1))), none⟩,
  ⟨some 7, .mv (.t 34), none⟩]
def f288B0 : RC := (.seq (.seq (.dregion f288r4 [] [] [0, 1, 2, 7, 8, 32]) (.cond (.t 32) .skip (.exit 2))) (.block 3 (.region f288r5 [0, 1, 2, 7, 8])))
def f288L0 : RC := .loop [0, 1, 2, 7, 8] f288B0
@[simp] def f288r6 : List ROper := [
  ⟨some 35, .mv (.t 7), none⟩,
  ⟨some 36, .mv (.t 2), none⟩,
  ⟨some 37, .bin .eql (.t 35) (.t 36), none⟩]
@[simp] def f288r7 : List ROper := [
  ⟨some 6, .mv (.c (.bool true)), none⟩]
@[simp] def f288r8 : List ROper := [
  ⟨some 38, .mv (.t 2), none⟩,
  ⟨some 39, .mv (.t 1), none⟩,
  ⟨some 40, .bin .sub (.t 38) (.t 39), none⟩,
  ⟨some 41, .bin .lss (.t 40) (.c (.int .i64 (.ofNat 50))), none⟩]
@[simp] def f288r9 : List ROper := [
  ⟨some 6, .mv (.c (.bool false)), none⟩]
@[simp] def f288r10 : List ROper := [
  ⟨some 42, .mv (.t 0), none⟩,
  ⟨some 43, .mv (.t 7), none⟩,
  ⟨some 44, .mv (.t 0), none⟩,
  ⟨some 45, .mv (.t 7), none⟩,
  ⟨some 46, .bin .sub (.t 45) (.c (.int .i64 (.ofNat 1))), none⟩,
  ⟨some 47, .mv (.t 0), none⟩,
  ⟨some 48, .mv (.t 7), none⟩,
  ⟨some 49, .bin .sub (.t 48) (.c (.int .i64 (.ofNat 1))), none⟩,
  ⟨some 50, .iaddr 1 (.t 47) (.t 49), none⟩,
  ⟨some 51, .load 1 false (.t 50), none⟩,
  ⟨some 52, .mv (.t 0), none⟩,
  ⟨some 53, .mv (.t 7), none⟩,
  ⟨some 54, .iaddr 1 (.t 52) (.t 53), none⟩,
  ⟨some 55, .load 1 false (.t 54), none⟩,
  ⟨some 56, .iaddr 1 (.t 42) (.t 43), none⟩,
  ⟨none, .store 1 (.t 56) (.t 51), none⟩,
  ⟨some 57, .iaddr 1 (.t 44) (.t 46), none⟩,
  ⟨none, .store 1 (.t 57) (.t 55), none⟩]
@[simp] def f288r11 : List ROper := [
  ⟨some 58, .mv (.t 7), none⟩,
  ⟨some 59, .mv (.t 1), none⟩,
  ⟨some 60, .bin .sub (.t 58) (.t 59), none⟩,
  ⟨some 61, .bin .geq (.t 60) (.c (.int .i64 (.ofNat 2))), none⟩]
@[simp] def f288r12 : List ROper := [
  ⟨some 62, .mv (.t 7), none⟩,
  ⟨some 63, .bin .sub (.t 62) (.c (.int .i64 (.ofNat 1))), none⟩,
  ⟨some 9, .mv (.t 63), none⟩]
@[simp] def f288r13 : List ROper := [
  ⟨some 64, .mv (.t 9), none⟩,
  ⟨some 65, .bin .geq (.t 64) (.c (.int .i64 (.ofNat 1))), none⟩]
@[simp] def f288r14 : List ROper := [
  ⟨some 68, .mv (.t 0), none⟩,
  ⟨some 69, .mv (.t 9), none⟩,
  ⟨some 70, .iaddr 1 (.t 68) (.t 69), none⟩,
  ⟨some 71, .load 1 false (.t 70), none⟩,
  ⟨some 72, .mv (.t 0), none⟩,
  ⟨some 73, .mv (.t 9), none⟩,
  ⟨some 74, .bin .sub (.t 73) (.c (.int .i64 (.ofNat 1))), none⟩,
  ⟨some 75, .iaddr 1 (.t 72) (.t 74), none⟩,
  ⟨some 76, .load 1 false (.t 75), none⟩,
  ⟨some 77, .call 289 [(.t 71), (.t 76)], none⟩,
  ⟨some 78, .un .not (.t 77), none⟩]
@[simp] def f288r15 : List ROper := [
  ⟨some 79, .mv (.t 0), none⟩,
  ⟨some 80, .mv (.t 9), none⟩,
  ⟨some 81, .mv (.t 0), none⟩,
  ⟨some 82, .mv (.t 9), none⟩,
  ⟨some 83, .bin .sub (.t 82) (.c (.int .i64 (.ofNat 1))), none⟩,
  ⟨some 84, .mv (.t 0), none⟩,
  ⟨some 85, .mv (.t 9), none⟩,
  ⟨some 86, .bin .sub (.t 85) (.c (.int .i64 (.ofNat 1))), none⟩,
  ⟨some 87, .iaddr 1 (.t 84) (.t 86), none⟩,
  ⟨some 88, .load 1 false (.t 87), none⟩,
  ⟨some 89, .mv (.t 0), none⟩,
  ⟨some 90, .mv (.t 9), none⟩,
  ⟨some 91, .iaddr 1 (.t 89) (.t 90), none⟩,
  ⟨some 92, .load 1 false (.t 91), none⟩,
  ⟨some 93, .iaddr 1 (.t 79) (.t 80), none⟩,
  ⟨none, .store 1 (.t 93) (.t 88), none⟩,
  ⟨some 94, .iaddr 1 (.t 81) (.t 83), none⟩,
  ⟨none, .store 1 (.t 94) (.t 92), none⟩]
@[simp] def f288r16 : List ROper := [
  ⟨some 66, .mv (.t 9), none⟩,
  ⟨some 67, .bin .sub (.t 66) (.c (.int .i64 (.ofNat 1))), none⟩,
  ⟨some 9, .mv (.t 67), none⟩]
def f288B1 : RC := (.seq (.seq (.region f288r13 [0, 1, 2, 7, 8, 9, 65]) (.cond (.t 65) .skip (.exit 4))) (.seq (.block 5 (.seq (.seq (.dregion f288r14 [] [] [0, 1, 2, 7, 8, 9, 78]) (.cond (.t 78) (.exit 4) .skip)) (.dregion f288r15 [] [] [0, 1, 2, 7, 8, 9]))) (.region f288r16 [0, 1, 2, 7, 8, 9])))
def f288L1 : RC := .loop [0, 1, 2, 7, 8, 9] f288B1
@[simp] def f288r17 : List ROper := [
  ⟨some 95, .mv (.t 2), none⟩,
  ⟨some 96, .mv (.t 7), none⟩,
  ⟨some 97, .bin .sub (.t 95) (.t 96), none⟩,
  ⟨some 98, .bin .geq (.t 97) (.c (.int .i64 (.ofNat 2))), none⟩]
@[simp] def f288r18 : List ROper := [
  ⟨some 99, .mv (.t 7), none⟩,
  ⟨some 100, .bin .add (.t 99) (.c (.int .i64 (.ofNat 1))), none⟩,
  ⟨some 10, .mv (.t 100), none⟩]
@[simp] def f288r19 : List ROper := [
  ⟨some 101, .mv (.t 10), none⟩,
  ⟨some 102, .mv (.t 2), none⟩,
  ⟨some 103, .bin .lss (.t 101) (.t 102), none⟩]
@[simp] def f288r20 : List ROper := [
  ⟨some 106, .mv (.t 0), none⟩,
  ⟨some 107, .mv (.t 10), none⟩,
  ⟨some 108, .iaddr 1 (.t 106) (.t 107), none⟩,
  ⟨some 109, .load 1 false (.t 108), none⟩,
  ⟨some 110, .mv (.t 0), none⟩,
  ⟨some 111, .mv (.t 10), none⟩,
  ⟨some 112, .bin .sub (.t 111) (.c (.int .i64 (.ofNat 1))), none⟩,
  ⟨some 113, .iaddr 1 (.t 110) (.t 112), none⟩,
  ⟨some 114, .load 1 false (.t 113), none⟩,
  ⟨some 115, .call 289 [(.t 109), (.t 114)], none⟩,
  ⟨some 116, .un .not (.t 115), none⟩]
@[simp] def f288r21 : List ROper := [
  ⟨some 117, .mv (.t 0), none⟩,
  ⟨some 118, .mv (.t 10), none⟩,
  ⟨some 119, .mv (.t 0), none⟩,
  ⟨some 120, .mv (.t 10), none⟩,
  ⟨some 121, .bin .sub (.t 120) (.c (.int .i64 (.ofNat 1))), none⟩,
  ⟨some 122, .mv (.t 0), none⟩,
  ⟨some 123, .mv (.t 10), none⟩,
  ⟨some 124, .bin .sub (.t 123) (.c (.int .i64 (.ofNat 1))), none⟩,
  ⟨some 125, .iaddr 1 (.t 122) (.t 124), none⟩,
  ⟨some 126, .load 1 false (.t 125), none⟩,
  ⟨some 127, .mv (.t 0), none⟩,
  ⟨some 128, .mv (.t 10), none⟩,
  ⟨some 129, .iaddr 1 (.t 127) (.t 128), none⟩,
  ⟨some 130, .load 1 false (.t 129), none⟩,
  ⟨some 131, .iaddr 1 (.t 117) (.t 118), none⟩,
  ⟨none, .store 1 (.t 131) (.t 126), none⟩,
  ⟨some 132, .iaddr 1 (.t 119) (.t 121), none⟩,
  ⟨none, .store 1 (.t 132) (.t 130), none⟩]
@[simp] def f288r22 : List ROper := [
  ⟨some 104, .mv (.t 10), none⟩,
  ⟨some 105, .bin .add (.t 104) (.c (.int .i64 (.ofNat 1))), none⟩,
  ⟨some 10, .mv (.t 105), none⟩]
def f288B2 : RC := (.seq (.seq (.region f288r19 [0, 1, 2, 7, 8, 10, 103]) (.cond (.t 103) .skip (.exit 6))) (.seq (.block 7 (.seq (.seq (.dregion f288r20 [] [] [0, 1, 2, 7, 8, 10, 116]) (.cond (.t 116) (.exit 6) .skip)) (.dregion f288r21 [] [] [0, 1, 2, 7, 8, 10]))) (.region f288r22 [0, 1, 2, 7, 8, 10])))
def f288L2 : RC := .loop [0, 1, 2, 7, 8, 10] f288B2
@[simp] def f288r23 : List ROper := [
  ⟨some 15, .mv (.t 8), none⟩,
  ⟨some 16, .bin .add (.t 15) (.c (.int .i64 (.ofNat 1))), none⟩,
  ⟨some 8, .mv (.t 16), none⟩]
def f288B3 : RC := (.seq (.seq (.region f288r3 [0, 1, 2, 7, 8, 14]) (.cond (.t 14) .skip (.exit 0))) (.seq (.block 1 (.seq (.block 2 f288L0) (.seq (.seq (.region f288r6 [0, 1, 2, 7, 8, 37]) (.cond (.t 37) (.seq (.region f288r7 [6]) .ret) .skip)) (.seq (.seq (.region f288r8 [0, 1, 2, 7, 8, 41]) (.cond (.t 41) (.seq (.region f288r9 [6]) .ret) .skip)) (.seq (.dregion f288r10 [] [] [0, 1, 2, 7, 8]) (.seq (.seq (.region f288r11 [0, 1, 2, 7, 8, 61]) (.cond (.t 61) (.seq (.region f288r12 [0, 1, 2, 7, 8, 9]) (.block 4 f288L1)) .skip)) (.seq (.region f288r17 [0, 1, 2, 7, 8, 98]) (.cond (.t 98) (.seq (.region f288r18 [0, 1, 2, 7, 8, 10]) (.block 6 f288L2)) .skip)))))))) (.region f288r23 [0, 1, 2, 7, 8])))
def f288L3 : RC := .loop [0, 1, 2, 7, 8] f288B3
@[simp] def f288r24 : List ROper := [
  ⟨some 6, .mv (.c (.bool false)), none⟩]
def f288 : RFunc := ⟨[.t 6], (.seq (.region f288r0 [0, 1, 2]) (.seq (.region f288r1 [0, 1, 2, 7]) (.seq (.seq (.region f288r2 [0, 1, 2, 7, 8]) (.block 0 f288L3)) (.seq (.region f288r24 [6]) .ret)))), true⟩

/-! cmp.Less[int] -/
@[simp] def f289r0 : List ROper := [
  ⟨some 4, .mv (.c (.bool false)), none⟩]
@[simp] def f289r1 : List ROper := [
  ⟨some 5, .mv (.t 0), none⟩,
  ⟨some 6, .call 162 [(.t 5)], none⟩,
  ⟨some 7, .mv (.t 6), none⟩,
  ⟨some 8, .mv (.t 1), some (7, true)⟩,
  ⟨some 9, .call 162 [(.t 8)], some (7, true)⟩,
  ⟨some 10, .un .not (.t 9), some (7, true)⟩,
  ⟨some 11, .pick (.t 7) (.t 10) (.c (.bool false)), none⟩,
  ⟨some 12, .mv (.t 11), none⟩,
  ⟨some 13, .mv (.t 0), some (12, false)⟩,
  ⟨some 14, .mv (.t 1), some (12, false)⟩,
  ⟨some 15, .bin .lss (.t 13) (.t 14), some (12, false)⟩,
  ⟨some 16, .pick (.t 12) (.c (.bool true)) (.t 15), none⟩,
  ⟨some 4, .mv (.t 16), none⟩]
def f289 : RFunc := ⟨[.t 4], (.seq (.region f289r0 [0, 1]) (.seq (.region f289r1 [4]) .ret)), true⟩

/-! slices.partitionEqualOrdered[int] -/
@[simp] def f290r0 : List ROper := [
  ⟨some 8, .mv (.c (.int .i64 (.ofNat 0))), none⟩]
@[simp] def f290r1 : List ROper := [
  ⟨some 11, .mv (.t 0), none⟩,
  ⟨some 12, .mv (.t 1), none⟩,
  ⟨some 13, .mv (.t 0), none⟩,
  ⟨some 14, .mv (.t 3), none⟩,
  ⟨some 15, .mv (.t 0), none⟩,
  ⟨some 16, .mv (.t 3), none⟩,
  ⟨some 17, .iaddr 1 (.t 15) (.t 16), none⟩,
  ⟨some 18, .load 1 false (.t 17), none⟩,
  ⟨some 19, .mv (.t 0), none⟩,
  ⟨some 20, .mv (.t 1), none⟩,
  ⟨some 21, .iaddr 1 (.t 19) (.t 20), none⟩,
  ⟨some 22, .load 1 false (.t 21), none⟩,
  ⟨some 23, .iaddr 1 (.t 11) (.t 12), none⟩,
  ⟨none, .store 1 (.t 23) (.t 18), none⟩,
  ⟨some 24, .iaddr 1 (.t 13) (.t 14), none⟩,
  ⟨none, .store 1 (.t 24) (.t 22), none⟩]
@[simp] def f290r2 : List ROper := [
  ⟨some 25, .mv (.t 1), none⟩,
  ⟨some 26, .bin .add (.t 25) (.c (.int .i64 (.ofNat 1))), none⟩,
  ⟨some 27, .mv (.t 2), none⟩,
  ⟨some 28, .bin .sub (.t 27) (.c (.int .i64 (.ofNat 1))), none⟩,
  ⟨some 9, .mv (.t 26), none⟩,
  ⟨some 10, .mv (.t 28), none⟩]
@[simp] def f290r3 : List ROper := [
  ⟨some 29, .mv (.t 9), none⟩,
  ⟨some 30, .mv (.t 10), none⟩,
  ⟨some 31, .bin .leq (.t 29) (.t 30), none⟩,
  ⟨some 32, .mv (.t 31), none⟩,
  ⟨some 33, .mv (.t 0), some (32, true)⟩,
  ⟨some 34, .mv (.t 1), some (32, true)⟩,
  ⟨some 35, .iaddr 1 (.t 33) (.t 34), some (32, true)⟩,
  ⟨some 36, .load 1 false (.t 35), some (32, true)⟩,
  ⟨some 37, .mv (.t 0), some (32, true)⟩,
  ⟨some 38, .mv (.t 9), some (32, true)⟩,
  ⟨some 39, .iaddr 1 (.t 37) (.t 38), some (32, true)⟩,
  ⟨some 40, .load 1 false (.t 39), some (32, true)⟩,
  ⟨some 41, .call 289 [(.t 36), (.t 40)], some (32, true)⟩,
  ⟨some 42, .un .not (.t 41), some (32, true)⟩,
  ⟨some 43, .pick (.t 32) (.t 42) (.c (.bool false)), none⟩]
@[simp] def f290r4 : List ROper := [
  ⟨some 44, .mv (.t 9), none⟩,
  ⟨some 45, .bin .add (.t 44) (.c (.int .i64 (.ofNat 1))), none⟩,
  ⟨some 9, .mv (.t 45), none⟩]
def f290B0 : RC := (.seq (.seq (.dregion f290r3 [] [] [0, 1, 9, 10, 43]) (.cond (.t 43) .skip (.exit 2))) (.block 3 (.region f290r4 [0, 1, 9, 10])))
def f290L0 : RC := .loop [0, 1, 9, 10] f290B0
@[simp] def f290r5 : List ROper := [
  ⟨some 46, .mv (.t 9), none⟩,
  ⟨some 47, .mv (.t 10), none⟩,
  ⟨some 48, .bin .leq (.t 46) (.t 47), none⟩,
  ⟨some 49, .mv (.t 48), none⟩,
  ⟨some 50, .mv (.t 0), some (49, true)⟩,
  ⟨some 51, .mv (.t 1), some (49, true)⟩,
  ⟨some 52, .iaddr 1 (.t 50) (.t 51), some (49, true)⟩,
  ⟨some 53, .load 1 false (.t 52), some (49, true)⟩,
  ⟨some 54, .mv (.t 0), some (49, true)⟩,
  ⟨some 55, .mv (.t 10), some (49, true)⟩,
  ⟨some 56, .iaddr 1 (.t 54) (.t 55), some (49, true)⟩,
  ⟨some 57, .load 1 false (.t 56), some (49, true)⟩,
  ⟨some 58, .call 289 [(.t 53), (.t 57)], some (49, true)⟩,
  ⟨some 59, .pick (.t 49) (.t 58) (.c (.bool false)), none⟩]
@[simp] def f290r6 : List ROper := [
  ⟨some 60, .mv (.t 10), none⟩,
  ⟨some 61, .bin .sub (.t 60) (.c (.int .i64 (.ofNat 1))), none⟩,
  ⟨some 10, .mv (.t 61), none⟩]
def f290B1 : RC := (.seq (.seq (.dregion f290r5 [] [] [0, 1, 9, 10, 59]) (.cond (.t 59) .skip (.exit 4))) (.block 5 (.region f290r6 [0, 1, 9, 10])))
def f290L1 : RC := .loop [0, 1, 9, 10] f290B1
@[simp] def f290r7 : List ROper := [
  ⟨some 62, .mv (.t 9), none⟩,
  ⟨some 63, .mv (.t 10), none⟩,
  ⟨some 64, .bin .gtr (.t 62) (.t 63), none⟩]
@[simp] def f290r8 : List ROper := [
  ⟨some 65, .mv (.t 0), none⟩,
  ⟨some 66, .mv (.t 9), none⟩,
  ⟨some 67, .mv (.t 0), none⟩,
  ⟨some 68, .mv (.t 10), none⟩,
  ⟨some 69, .mv (.t 0), none⟩,
  ⟨some 70, .mv (.t 10), none⟩,
  ⟨some 71, .iaddr 1 (.t 69) (.t 70), none⟩,
  ⟨some 72, .load 1 false (.t 71), none⟩,
  ⟨some 73, .mv (.t 0), none⟩,
  ⟨some 74, .mv (.t 9), none⟩,
  ⟨some 75, .iaddr 1 (.t 73) (.t 74), none⟩,
  ⟨some 76, .load 1 false (.t 75), none⟩,
  ⟨some 77, .iaddr 1 (.t 65) (.t 66), none⟩,
  ⟨none, .store 1 (.t 77) (.t 72), none⟩,
  ⟨some 78, .iaddr 1 (.t 67) (.t 68), none⟩,
  ⟨none, .store 1 (.t 78) (.t 76), none⟩]
@[simp] def f290r9 : List ROper := [
  ⟨some 79, .mv (.t 9), none⟩,
  ⟨some 80, .bin .add (.t 79) (.c (.int .i64 (.ofNat 1))), none⟩,
  ⟨some 9, .mv (.t 80), none⟩]
@[simp] def f290r10 : List ROper := [
  ⟨some 81, .mv (.t 10), none⟩,
  ⟨some 82, .bin .sub (.t 81) (.c (.int .i64 (.ofNat 1))), none⟩,
  ⟨some 10, .mv (.t 82), none⟩]
def f290B2 : RC := (.block 1 (.seq (.block 2 f290L0) (.seq (.block 4 f290L1) (.seq (.seq (.region f290r7 [0, 1, 9, 10, 64]) (.cond (.t 64) (.exit 0) .skip)) (.seq (.dregion f290r8 [] [] [0, 1, 9, 10]) (.seq (.region f290r9 [0, 1, 9, 10]) (.region f290r10 [0, 1, 9, 10])))))))
def f290L2 : RC := .loop [0, 1, 9, 10] f290B2
@[simp] def f290r11 : List ROper := [
  ⟨some 83, .mv (.t 9), none⟩,
  ⟨some 8, .mv (.t 83), none⟩]
def f290 : RFunc := ⟨[.t 8], (.seq (.region f290r0 [0, 1, 2, 3]) (.seq (.dregion f290r1 [] [] [0, 1, 2]) (.seq (.region f290r2 [0, 1, 9, 10]) (.seq (.block 0 f290L2) (.seq (.region f290r11 [8]) .ret))))), true⟩

/-! slices.partitionOrdered[int] -/
@[simp] def f291r0 : List ROper := [
  ⟨some 8, .mv (.c (.int .i64 (.ofNat 0))), none⟩,
  ⟨some 9, .mv (.c (.bool false)), none⟩]
@[simp] def f291r1 : List ROper := [
  ⟨some 12, .mv (.t 0), none⟩,
  ⟨some 13, .mv (.t 1), none⟩,
  ⟨some 14, .mv (.t 0), none⟩,
  ⟨some 15, .mv (.t 3), none⟩,
  ⟨some 16, .mv (.t 0), none⟩,
  ⟨some 17, .mv (.t 3), none⟩,
  ⟨some 18, .iaddr 1 (.t 16) (.t 17), none⟩,
  ⟨some 19, .load 1 false (.t 18), none⟩,
  ⟨some 20, .mv (.t 0), none⟩,
  ⟨some 21, .mv (.t 1), none⟩,
  ⟨some 22, .iaddr 1 (.t 20) (.t 21), none⟩,
  ⟨some 23, .load 1 false (.t 22), none⟩,
  ⟨some 24, .iaddr 1 (.t 12) (.t 13), none⟩,
  ⟨none, .store 1 (.t 24) (.t 19), none⟩,
  ⟨some 25, .iaddr 1 (.t 14) (.t 15), none⟩,
  ⟨none, .store 1 (.t 25) (.t 23), none⟩]
@[simp] def f291r2 : List ROper := [
  ⟨some 26, .mv (.t 1), none⟩,
  ⟨some 27, .bin .add (.t 26) (.c (.int .i64 (.ofNat 1))), none⟩,
  ⟨some 28, .mv (.t 2), none⟩,
  ⟨some 29, .bin .sub (.t 28) (.c (.int .i64 (.ofNat 1))), none⟩,
  ⟨some 10, .mv (.t 27), none⟩,
  ⟨some 11, .mv (.t 29), none⟩]
@[simp] def f291r3 : List ROper := [
  ⟨some 30, .mv (.t 10), none⟩,
  ⟨some 31, .mv (.t 11), none⟩,
  ⟨some 32, .bin .leq (.t 30) (.t 31), none⟩,
  ⟨some 33, .mv (.t 32), none⟩,
  ⟨some 34, .mv (.t 0), some (33, true)⟩,
  ⟨some 35, .mv (.t 10), some (33, true)⟩,
  ⟨some 36, .iaddr 1 (.t 34) (.t 35), some (33, true)⟩,
  ⟨some 37, .load 1 false (.t 36), some (33, true)⟩,
  ⟨some 38, .mv (.t 0), some (33, true)⟩,
  ⟨some 39, .mv (.t 1), some (33, true)⟩,
  ⟨some 40, .iaddr 1 (.t 38) (.t 39), some (33, true)⟩,
  ⟨some 41, .load 1 false (.t 40), some (33, true)⟩,
  ⟨some 42, .call 289 [(.t 37), (.t 41)], some (33, true)⟩,
  ⟨some 43, .pick (.t 33) (.t 42) (.c (.bool false)), none⟩]
@[simp] def f291r4 : List ROper := [
  ⟨some 44, .mv (.t 10), none⟩,
  ⟨some 45, .bin .add (.t 44) (.c (.int .i64 (.ofNat 1))), none⟩,
  ⟨some 10, .mv (.t 45), none⟩]
def f291B0 : RC := (.seq (.seq (.dregion f291r3 [] [] [0, 1, 10, 11, 43]) (.cond (.t 43) .skip (.exit 0))) (.block 1 (.region f291r4 [0, 1, 10, 11])))
def f291L0 : RC := .loop [0, 1, 10, 11] f291B0
@[simp] def f291r5 : List ROper := [
  ⟨some 46, .mv (.t 10), none⟩,
  ⟨some 47, .mv (.t 11), none⟩,
  ⟨some 48, .bin .leq (.t 46) (.t 47), none⟩,
  ⟨some 49, .mv (.t 48), none⟩,
  ⟨some 50, .mv (.t 0), some (49, true)⟩,
  ⟨some 51, .mv (.t 11), some (49, true)⟩,
  ⟨some 52, .iaddr 1 (.t 50) (.t 51), some (49, true)⟩,
  ⟨some 53, .load 1 false (.t 52), some (49, true)⟩,
  ⟨some 54, .mv (.t 0), some (49, true)⟩,
  ⟨some 55, .mv (.t 1), some (49, true)⟩,
  ⟨some 56, .iaddr 1 (.t 54) (.t 55), some (49, true)⟩,
  ⟨some 57, .load 1 false (.t 56), some (49, true)⟩,
  ⟨some 58, .call 289 [(.t 53), (.t 57)], some (49, true)⟩,
  ⟨some 59, .un .not (.t 58), some (49, true)⟩,
  ⟨some 60, .pick (.t 49) (.t 59) (.c (.bool false)), none⟩]
@[simp] def f291r6 : List ROper := [
  ⟨some 61, .mv (.t 11), none⟩,
  ⟨some 62, .bin .sub (.t 61) (.c (.int .i64 (.ofNat 1))), none⟩,
  ⟨some 11, .mv (.t 62), none⟩]
def f291B1 : RC := (.seq (.seq (.dregion f291r5 [] [] [0, 1, 10, 11, 60]) (.cond (.t 60) .skip (.exit 2))) (.block 3 (.region f291r6 [0, 1, 10, 11])))
def f291L1 : RC := .loop [0, 1, 10, 11] f291B1
@[simp] def f291r7 : List ROper := [
  ⟨some 63, .mv (.t 10), none⟩,
  ⟨some 64, .mv (.t 11), none⟩,
  ⟨some 65, .bin .gtr (.t 63) (.t 64), none⟩]
@[simp] def f291r8 : List ROper := [
  ⟨some 66, .mv (.t 0), none⟩,
  ⟨some 67, .mv (.t 11), none⟩,
  ⟨some 68, .mv (.t 0), none⟩,
  ⟨some 69, .mv (.t 1), none⟩,
  ⟨some 70, .mv (.t 0), none⟩,
  ⟨some 71, .mv (.t 1), none⟩,
  ⟨some 72, .iaddr 1 (.t 70) (.t 71), none⟩,
  ⟨some 73, .load 1 false (.t 72), none⟩,
  ⟨some 74, .mv (.t 0), none⟩,
  ⟨some 75, .mv (.t 11), none⟩,
  ⟨some 76, .iaddr 1 (.t 74) (.t 75), none⟩,
  ⟨some 77, .load 1 false (.t 76), none⟩,
  ⟨some 78, .iaddr 1 (.t 66) (.t 67), none⟩,
  ⟨none, .store 1 (.t 78) (.t 73), none⟩,
  ⟨some 79, .iaddr 1 (.t 68) (.t 69), none⟩,
  ⟨none, .store 1 (.t 79) (.t 77), none⟩]
@[simp] def f291r9 : List ROper := [
  ⟨some 80, .mv (.t 11), none⟩,
  ⟨some 8, .mv (.t 80), none⟩,
  ⟨some 9, .mv (.c (.bool true)), none⟩]
@[simp] def f291r10 : List ROper := [
  ⟨some 81, .mv (.t 0), none⟩,
  ⟨some 82, .mv (.t 10), none⟩,
  ⟨some 83, .mv (.t 0), none⟩,
  ⟨some 84, .mv (.t 11), none⟩,
  ⟨some 85, .mv (.t 0), none⟩,
  ⟨some 86, .mv (.t 11), none⟩,
  ⟨some 87, .iaddr 1 (.t 85) (.t 86), none⟩,
  ⟨some 88, .load 1 false (.t 87), none⟩,
  ⟨some 89, .mv (.t 0), none⟩,
  ⟨some 90, .mv (.t 10), none⟩,
  ⟨some 91, .iaddr 1 (.t 89) (.t 90), none⟩,
  ⟨some 92, .load 1 false (.t 91), none⟩,
  ⟨some 93, .iaddr 1 (.t 81) (.t 82), none⟩,
  ⟨none, .store 1 (.t 93) (.t 88), none⟩,
  ⟨some 94, .iaddr 1 (.t 83) (.t 84), none⟩,
  ⟨none, .store 1 (.t 94) (.t 92), none⟩]
@[simp] def f291r11 : List ROper := [
  ⟨some 95, .mv (.t 10), none⟩,
  ⟨some 96, .bin .add (.t 95) (.c (.int .i64 (.ofNat 1))), none⟩,
  ⟨some 10, .mv (.t 96), none⟩]
@[simp] def f291r12 : List ROper := [
  ⟨some 97, .mv (.t 11), none⟩,
  ⟨some 98, .bin .sub (.t 97) (.c (.int .i64 (.ofNat 1))), none⟩,
  ⟨some 11, .mv (.t 98), none⟩]
@[simp] def f291r13 : List ROper := [
  ⟨some 99, .mv (.t 10), none⟩,
  ⟨some 100, .mv (.t 11), none⟩,
  ⟨some 101, .bin .leq (.t 99) (.t 100), none⟩,
  ⟨some 102, .mv (.t 101), none⟩,
  ⟨some 103, .mv (.t 0), some (102, true)⟩,
  ⟨some 104, .mv (.t 10), some (102, true)⟩,
  ⟨some 105, .iaddr 1 (.t 103) (.t 104), some (102, true)⟩,
  ⟨some 106, .load 1 false (.t 105), some (102, true)⟩,
  ⟨some 107, .mv (.t 0), some (102, true)⟩,
  ⟨some 108, .mv (.t 1), some (102, true)⟩,
  ⟨some 109, .iaddr 1 (.t 107) (.t 108), some (102, true)⟩,
  ⟨some 110, .load 1 false (.t 109), some (102, true)⟩,
  ⟨some 111, .call 289 [(.t 106), (.t 110)], some (102, true)⟩,
  ⟨some 112, .pick (.t 102) (.t 111) (.c (.bool false)), none⟩]
@[simp] def f291r14 : List ROper := [
  ⟨some 113, .mv (.t 10), none⟩,
  ⟨some 114, .bin .add (.t 113) (.c (.int .i64 (.ofNat 1))), none⟩,
  ⟨some 10, .mv (.t 114), none⟩]
def f291B2 : RC := (.seq (.seq (.dregion f291r13 [] [] [0, 1, 10, 11, 112]) (.cond (.t 112) .skip (.exit 6))) (.block 7 (.region f291r14 [0, 1, 10, 11])))
def f291L2 : RC := .loop [0, 1, 10, 11] f291B2
@[simp] def f291r15 : List ROper := [
  ⟨some 115, .mv (.t 10), none⟩,
  ⟨some 116, .mv (.t 11), none⟩,
  ⟨some 117, .bin .leq (.t 115) (.t 116), none⟩,
  ⟨some 118, .mv (.t 117), none⟩,
  ⟨some 119, .mv (.t 0), some (118, true)⟩,
  ⟨some 120, .mv (.t 11), some (118, true)⟩,
  ⟨some 121, .iaddr 1 (.t 119) (.t 120), some (118, true)⟩,
  ⟨some 122, .load 1 false (.t 121), some (118, true)⟩,
  ⟨some 123, .mv (.t 0), some (118, true)⟩,
  ⟨some 124, .mv (.t 1), some (118, true)⟩,
  ⟨some 125, .iaddr 1 (.t 123) (.t 124), some (118, true)⟩,
  ⟨some 126, .load 1 false (.t 125), some (118, true)⟩,
  ⟨some 127, .call 289 [(.t 122), (.t 126)], some (118, true)⟩,
  ⟨some 128, .un .not (.t 127), some (118, true)⟩,
  ⟨some 129, .pick (.t 118) (.t 128) (.c (.bool false)), none⟩]
@[simp] def f291r16 : List ROper := [
  ⟨some 130, .mv (.t 11), none⟩,
  ⟨some 131, .bin .sub (.t 130) (.c (.int .i64 (.ofNat 1))), none⟩,
  ⟨some 11, .mv (.t 131), none⟩]
def f291B3 : RC := (.seq (.seq (.dregion f291r15 [] [] [0, 1, 10, 11, 129]) (.cond (.t 129) .skip (.exit 8))) (.block 9 (.region f291r16 [0, 1, 10, 11])))
def f291L3 : RC := .loop [0, 1, 10, 11] f291B3
@[simp] def f291r17 : List ROper := [
  ⟨some 132, .mv (.t 10), none⟩,
  ⟨some 133, .mv (.t 11), none⟩,
  ⟨some 134, .bin .gtr (.t 132) (.t 133), none⟩]
@[simp] def f291r18 : List ROper := [
  ⟨some 135, .mv (.t 0), none⟩,
  ⟨some 136, .mv (.t 10), none⟩,
  ⟨some 137, .mv (.t 0), none⟩,
  ⟨some 138, .mv (.t 11), none⟩,
  ⟨some 139, .mv (.t 0), none⟩,
  ⟨some 140, .mv (.t 11), none⟩,
  ⟨some 141, .iaddr 1 (.t 139) (.t 140), none⟩,
  ⟨some 142, .load 1 false (.t 141), none⟩,
  ⟨some 143, .mv (.t 0), none⟩,
  ⟨some 144, .mv (.t 10), none⟩,
  ⟨some 145, .iaddr 1 (.t 143) (.t 144), none⟩,
  ⟨some 146, .load 1 false (.t 145), none⟩,
  ⟨some 147, .iaddr 1 (.t 135) (.t 136), none⟩,
  ⟨none, .store 1 (.t 147) (.t 142), none⟩,
  ⟨some 148, .iaddr 1 (.t 137) (.t 138), none⟩,
  ⟨none, .store 1 (.t 148) (.t 146), none⟩]
@[simp] def f291r19 : List ROper := [
  ⟨some 149, .mv (.t 10), none⟩,
  ⟨some 150, .bin .add (.t 149) (.c (.int .i64 (.ofNat 1))), none⟩,
  ⟨some 10, .mv (.t 150), none⟩]
@[simp] def f291r20 : List ROper := [
  ⟨some 151, .mv (.t 11), none⟩,
  ⟨some 152, .bin .sub (.t 151) (.c (.int .i64 (.ofNat 1))), none⟩,
  ⟨some 11, .mv (.t 152), none⟩]
def f291B4 : RC := (.block 5 (.seq (.block 6 f291L2) (.seq (.block 8 f291L3) (.seq (.seq (.region f291r17 [0, 1, 10, 11, 134]) (.cond (.t 134) (.exit 4) .skip)) (.seq (.dregion f291r18 [] [] [0, 1, 10, 11]) (.seq (.region f291r19 [0, 1, 10, 11]) (.region f291r20 [0, 1, 10, 11])))))))
def f291L4 : RC := .loop [0, 1, 10, 11] f291B4
@[simp] def f291r21 : List ROper := [
  ⟨some 153, .mv (.t 0), none⟩,
  ⟨some 154, .mv (.t 11), none⟩,
  ⟨some 155, .mv (.t 0), none⟩,
  ⟨some 156, .mv (.t 1), none⟩,
  ⟨some 157, .mv (.t 0), none⟩,
  ⟨some 158, .mv (.t 1), none⟩,
  ⟨some 159, .iaddr 1 (.t 157) (.t 158), none⟩,
  ⟨some 160, .load 1 false (.t 159), none⟩,
  ⟨some 161, .mv (.t 0), none⟩,
  ⟨some 162, .mv (.t 11), none⟩,
  ⟨some 163, .iaddr 1 (.t 161) (.t 162), none⟩,
  ⟨some 164, .load 1 false (.t 163), none⟩,
  ⟨some 165, .iaddr 1 (.t 153) (.t 154), none⟩,
  ⟨none, .store 1 (.t 165) (.t 160), none⟩,
  ⟨some 166, .iaddr 1 (.t 155) (.t 156), none⟩,
  ⟨none, .store 1 (.t 166) (.t 164), none⟩]
@[simp] def f291r22 : List ROper := [
  ⟨some 167, .mv (.t 11), none⟩,
  ⟨some 8, .mv (.t 167), none⟩,
  ⟨some 9, .mv (.c (.bool false)), none⟩]
def f291 : RFunc := ⟨[.t 8, .t 9], (.seq (.region f291r0 [0, 1, 2, 3]) (.seq (.dregion f291r1 [] [] [0, 1, 2]) (.seq (.region f291r2 [0, 1, 10, 11]) (.seq (.block 0 f291L0) (.seq (.block 2 f291L1) (.seq (.seq (.region f291r7 [0, 1, 10, 11, 65]) (.cond (.t 65) (.seq (.dregion f291r8 [] [] [11]) (.seq (.region f291r9 [8, 9]) .ret)) .skip)) (.seq (.dregion f291r10 [] [] [0, 1, 10, 11]) (.seq (.region f291r11 [0, 1, 10, 11]) (.seq (.region f291r12 [0, 1, 10, 11]) (.seq (.block 4 f291L4) (.seq (.dregion f291r21 [] [] [11]) (.seq (.region f291r22 [8, 9]) .ret)))))))))))), true⟩

/-! math/bits.Len32 -/
@[simp] def f292r0 : List ROper := [
  ⟨some 2, .mv (.c (.int .i64 (.ofNat 0))), none⟩]
@[simp] def f292r1 : List ROper := [
  ⟨some 3, .mv (.t 0), none⟩,
  ⟨some 4, .bin .geq (.t 3) (.c (.int .u32 (.ofNat 65536))), none⟩]
@[simp] def f292r2 : List ROper := [
  ⟨some 5, .mv (.t 0), none⟩,
  ⟨some 6, .bin .shr (.t 5) (.c (.int .u64 (.ofNat 16))), none⟩,
  ⟨some 0, .mv (.t 6), none⟩]
@[simp] def f292r3 : List ROper := [
  ⟨some 2, .mv (.c (.int .i64 (.ofNat 16))), none⟩]
@[simp] def f292r4 : List ROper := [
  ⟨some 7, .mv (.t 0), none⟩,
  ⟨some 8, .bin .geq (.t 7) (.c (.int .u32 (.ofNat 256))), none⟩]
@[simp] def f292r5 : List ROper := [
  ⟨some 9, .mv (.t 0), none⟩,
  ⟨some 10, .bin .shr (.t 9) (.c (.int .u64 (.ofNat 8))), none⟩,
  ⟨some 0, .mv (.t 10), none⟩]
@[simp] def f292r6 : List ROper := [
  ⟨some 11, .mv (.t 2), none⟩,
  ⟨some 12, .bin .add (.t 11) (.c (.int .i64 (.ofNat 8))), none⟩,
  ⟨some 2, .mv (.t 12), none⟩]
@[simp] def f292r7 : List ROper := [
  ⟨some 13, .mv (.t 2), none⟩,
  ⟨some 14, .mv (.t 0), none⟩,
  ⟨some 15, .i2i .u8 (.t 14), none⟩,
  ⟨some 16, .index (.c (.str [0, 1, 2, 2, 3, 3, 3, 3, 4, 4, 4, 4, 4, 4, 4, 4, 5, 5, 5, 5, 5, 5, 5, 5, 5, 5, 5, 5, 5, 5, 5, 5, 6, 6, 6, 6, 6, 6, 6, 6, 6, 6, 6, 6, 6, 6, 6, 6, 6, 6, 6, 6, 6, 6, 6, 6, 6, 6, 6, 6, 6, 6, 6, 6, 7, 7, 7, 7, 7, 7, 7, 7, 7, 7, 7, 7, 7, 7, 7, 7, 7, 7, 7, 7, 7, 7, 7, 7, 7, 7, 7, 7, 7, 7, 7, 7, 7, 7, 7, 7, 7, 7, 7, 7, 7, 7, 7, 7, 7, 7, 7, 7, 7, 7, 7, 7, 7, 7, 7, 7, 7, 7, 7, 7, 7, 7, 7, 7, 8, 8, 8, 8, 8, 8, 8, 8, 8, 8, 8, 8, 8, 8, 8, 8, 8, 8, 8, 8, 8, 8, 8, 8, 8, 8, 8, 8, 8, 8, 8, 8, 8, 8, 8, 8, 8, 8, 8, 8, 8, 8, 8, 8, 8, 8, 8, 8, 8, 8, 8, 8, 8, 8, 8, 8, 8, 8, 8, 8, 8, 8, 8, 8, 8, 8, 8, 8, 8, 8, 8, 8, 8, 8, 8, 8, 8, 8, 8, 8, 8, 8, 8, 8, 8, 8, 8, 8, 8, 8, 8, 8, 8, 8, 8, 8, 8, 8, 8, 8, 8, 8, 8, 8, 8, 8, 8, 8, 8, 8, 8, 8, 8, 8, 8, 8, 8, 8, 8, 8, 8, 8, 8, 8, 8, 8, 8, 8])) (.t 15), none⟩,
  ⟨some 17, .i2i .i64 (.t 16), none⟩,
  ⟨some 18, .bin .add (.t 13) (.t 17), none⟩,
  ⟨some 2, .mv (.t 18), none⟩]
def f292 : RFunc := ⟨[.t 2], (.seq (.region f292r0 [0, 2]) (.seq (.seq (.region f292r1 [0, 2, 4]) (.cond (.t 4) (.seq (.region f292r2 [0]) (.region f292r3 [0, 2])) .skip)) (.seq (.seq (.region f292r4 [0, 2, 8]) (.cond (.t 8) (.seq (.region f292r5 [0, 2]) (.region f292r6 [0, 2])) .skip)) (.seq (.region f292r7 [2]) .ret)))), true⟩

/-! math/bits.Len64 -/
@[simp] def f293r0 : List ROper := [
  ⟨some 2, .mv (.c (.int .i64 (.ofNat 0))), none⟩]
@[simp] def f293r1 : List ROper := [
  ⟨some 3, .mv (.t 0), none⟩,
  ⟨some 4, .bin .geq (.t 3) (.c (.int .u64 (.ofNat 4294967296))), none⟩]
@[simp] def f293r2 : List ROper := [
  ⟨some 5, .mv (.t 0), none⟩,
  ⟨some 6, .bin .shr (.t 5) (.c (.int .u64 (.ofNat 32))), none⟩,
  ⟨some 0, .mv (.t 6), none⟩]
@[simp] def f293r3 : List ROper := [
  ⟨some 2, .mv (.c (.int .i64 (.ofNat 32))), none⟩]
@[simp] def f293r4 : List ROper := [
  ⟨some 7, .mv (.t 0), none⟩,
  ⟨some 8, .bin .geq (.t 7) (.c (.int .u64 (.ofNat 65536))), none⟩]
@[simp] def f293r5 : List ROper := [
  ⟨some 9, .mv (.t 0), none⟩,
  ⟨some 10, .bin .shr (.t 9) (.c (.int .u64 (.ofNat 16))), none⟩,
  ⟨some 0, .mv (.t 10), none⟩]
@[simp] def f293r6 : List ROper := [
  ⟨some 11, .mv (.t 2), none⟩,
  ⟨some 12, .bin .add (.t 11) (.c (.int .i64 (.ofNat 16))), none⟩,
  ⟨some 2, .mv (.t 12), none⟩]
@[simp] def f293r7 : List ROper := [
  ⟨some 13, .mv (.t 0), none⟩,
  ⟨some 14, .bin .geq (.t 13) (.c (.int .u64 (.ofNat 256))), none⟩]
@[simp] def f293r8 : List ROper := [
  ⟨some 15, .mv (.t 0), none⟩,
  ⟨some 16, .bin .shr (.t 15) (.c (.int .u64 (.ofNat 8))), none⟩,
  ⟨some 0, .mv (.t 16), none⟩]
@[simp] def f293r9 : List ROper := [
  ⟨some 17, .mv (.t 2), none⟩,
  ⟨some 18, .bin .add (.t 17) (.c (.int .i64 (.ofNat 8))), none⟩,
  ⟨some 2, .mv (.t 18), none⟩]
@[simp] def f293r10 : List ROper := [
  ⟨some 19, .mv (.t 2), none⟩,
  ⟨some 20, .mv (.t 0), none⟩,
  ⟨some 21, .i2i .u8 (.t 20), none⟩,
  ⟨some 22, .index (.c (.str [0, 1, 2, 2, 3, 3, 3, 3, 4, 4, 4, 4, 4, 4, 4, 4, 5, 5, 5, 5, 5, 5, 5, 5, 5, 5, 5, 5, 5, 5, 5, 5, 6, 6, 6, 6, 6, 6, 6, 6, 6, 6, 6, 6, 6, 6, 6, 6, 6, 6, 6, 6, 6, 6, 6, 6, 6, 6, 6, 6, 6, 6, 6, 6, 7, 7, 7, 7, 7, 7, 7, 7, 7, 7, 7, 7, 7, 7, 7, 7, 7, 7, 7, 7, 7, 7, 7, 7, 7, 7, 7, 7, 7, 7, 7, 7, 7, 7, 7, 7, 7, 7, 7, 7, 7, 7, 7, 7, 7, 7, 7, 7, 7, 7, 7, 7, 7, 7, 7, 7, 7, 7, 7, 7, 7, 7, 7, 7, 8, 8, 8, 8, 8, 8, 8, 8, 8, 8, 8, 8, 8, 8, 8, 8, 8, 8, 8, 8, 8, 8, 8, 8, 8, 8, 8, 8, 8, 8, 8, 8, 8, 8, 8, 8, 8, 8, 8, 8, 8, 8, 8, 8, 8, 8, 8, 8, 8, 8, 8, 8, 8, 8, 8, 8, 8, 8, 8, 8, 8, 8, 8, 8, 8, 8, 8, 8, 8, 8, 8, 8, 8, 8, 8, 8, 8, 8, 8, 8, 8, 8, 8, 8, 8, 8, 8, 8, 8, 8, 8, 8, 8, 8, 8, 8, 8, 8, 8, 8, 8, 8, 8, 8, 8, 8, 8, 8, 8, 8, 8, 8, 8, 8, 8, 8, 8, 8, 8, 8, 8, 8, 8, 8, 8, 8, 8, 8])) (.t 21), none⟩,
  ⟨some 23, .i2i .i64 (.t 22), none⟩,
  ⟨some 24, .bin .add (.t 19) (.t 23), none⟩,
  ⟨some 2, .mv (.t 24), none⟩]
def f293 : RFunc := ⟨[.t 2], (.seq (.region f293r0 [0, 2]) (.seq (.seq (.region f293r1 [0, 2, 4]) (.cond (.t 4) (.seq (.region f293r2 [0]) (.region f293r3 [0, 2])) .skip)) (.seq (.seq (.region f293r4 [0, 2, 8]) (.cond (.t 8) (.seq (.region f293r5 [0, 2]) (.region f293r6 [0, 2])) .skip)) (.seq (.seq (.region f293r7 [0, 2, 14]) (.cond (.t 14) (.seq (.region f293r8 [0, 2]) (.region f293r9 [0, 2])) .skip)) (.seq (.region f293r10 [2]) .ret))))), true⟩

/-! slices.siftDownOrdered[int] -/
@[simp] def f294r0 : List ROper := [
  ⟨some 10, .mv (.t 1), none⟩,
  ⟨some 8, .mv (.t 10), none⟩]
@[simp] def f294r1 : List ROper := [
  ⟨some 11, .mv (.t 8), none⟩,
  ⟨some 12, .bin .mul (.c (.int .i64 (.ofNat 2))) (.t 11), none⟩,
  ⟨some 13, .bin .add (.t 12) (.c (.int .i64 (.ofNat 1))), none⟩,
  ⟨some 9, .mv (.t 13), none⟩]
@[simp] def f294r2 : List ROper := [
  ⟨some 14, .mv (.t 9), none⟩,
  ⟨some 15, .mv (.t 2), none⟩,
  ⟨some 16, .bin .geq (.t 14) (.t 15), none⟩]
@[simp] def f294r3 : List ROper := [
  ⟨some 17, .mv (.t 9), none⟩,
  ⟨some 18, .bin .add (.t 17) (.c (.int .i64 (.ofNat 1))), none⟩,
  ⟨some 19, .mv (.t 2), none⟩,
  ⟨some 20, .bin .lss (.t 18) (.t 19), none⟩,
  ⟨some 21, .mv (.t 20), none⟩,
  ⟨some 22, .mv (.t 0), some (21, true)⟩,
  ⟨some 23, .mv (.t 3), some (21, true)⟩,
  ⟨some 24, .mv (.t 9), some (21, true)⟩,
  ⟨some 25, .bin .add (.t 23) (.t 24), some (21, true)⟩,
  ⟨some 26, .iaddr 1 (.t 22) (.t 25), some (21, true)⟩,
  ⟨some 27, .load 1 false (.t 26), some (21, true)⟩,
  ⟨some 28, .mv (.t 0), some (21, true)⟩,
  ⟨some 29, .mv (.t 3), some (21, true)⟩,
  ⟨some 30, .mv (.t 9), some (21, true)⟩,
  ⟨some 31, .bin .add (.t 29) (.t 30), some (21, true)⟩,
  ⟨some 32, .bin .add (.t 31) (.c (.int .i64 (.ofNat 1))), some (21, true)⟩,
  ⟨some 33, .iaddr 1 (.t 28) (.t 32), some (21, true)⟩,
  ⟨some 34, .load 1 false (.t 33), some (21, true)⟩,
  ⟨some 35, .call 289 [(.t 27), (.t 34)], some (21, true)⟩,
  ⟨some 36, .pick (.t 21) (.t 35) (.c (.bool false)), none⟩]
@[simp] def f294r4 : List ROper := [
  ⟨some 37, .mv (.t 9), none⟩,
  ⟨some 38, .bin .add (.t 37) (.c (.int .i64 (.ofNat 1))), none⟩,
  ⟨some 9, .mv (.t 38), none⟩]
@[simp] def f294r5 : List ROper := [
  ⟨some 39, .mv (.t 0), none⟩,
  ⟨some 40, .mv (.t 3), none⟩,
  ⟨some 41, .mv (.t 8), none⟩,
  ⟨some 42, .bin .add (.t 40) (.t 41), none⟩,
  ⟨some 43, .iaddr 1 (.t 39) (.t 42), none⟩,
  ⟨some 44, .load 1 false (.t 43), none⟩,
  ⟨some 45, .mv (.t 0), none⟩,
  ⟨some 46, .mv (.t 3), none⟩,
  ⟨some 47, .mv (.t 9), none⟩,
  ⟨some 48, .bin .add (.t 46) (.t 47), none⟩,
  ⟨some 49, .iaddr 1 (.t 45) (.t 48), none⟩,
  ⟨some 50, .load 1 false (.t 49), none⟩,
  ⟨some 51, .call 289 [(.t 44), (.t 50)], none⟩,
  ⟨some 52, .un .not (.t 51), none⟩]
@[simp] def f294r6 : List ROper := [
  ⟨some 53, .mv (.t 0), none⟩,
  ⟨some 54, .mv (.t 3), none⟩,
  ⟨some 55, .mv (.t 8), none⟩,
  ⟨some 56, .bin .add (.t 54) (.t 55), none⟩,
  ⟨some 57, .mv (.t 0), none⟩,
  ⟨some 58, .mv (.t 3), none⟩,
  ⟨some 59, .mv (.t 9), none⟩,
  ⟨some 60, .bin .add (.t 58) (.t 59), none⟩,
  ⟨some 61, .mv (.t 0), none⟩,
  ⟨some 62, .mv (.t 3), none⟩,
  ⟨some 63, .mv (.t 9), none⟩,
  ⟨some 64, .bin .add (.t 62) (.t 63), none⟩,
  ⟨some 65, .iaddr 1 (.t 61) (.t 64), none⟩,
  ⟨some 66, .load 1 false (.t 65), none⟩,
  ⟨some 67, .mv (.t 0), none⟩,
  ⟨some 68, .mv (.t 3), none⟩,
  ⟨some 69, .mv (.t 8), none⟩,
  ⟨some 70, .bin .add (.t 68) (.t 69), none⟩,
  ⟨some 71, .iaddr 1 (.t 67) (.t 70), none⟩,
  ⟨some 72, .load 1 false (.t 71), none⟩,
  ⟨some 73, .iaddr 1 (.t 53) (.t 56), none⟩,
  ⟨none, .store 1 (.t 73) (.t 66), none⟩,
  ⟨some 74, .iaddr 1 (.t 57) (.t 60), none⟩,
  ⟨none, .store 1 (.t 74) (.t 72), none⟩]
@[simp] def f294r7 : List ROper := [
  ⟨some 75, .mv (.t 9), none⟩,
  ⟨some 8, .mv (.t 75), none⟩]
def f294B0 : RC := (.block 1 (.seq (.region f294r1 [0, 2, 3, 8, 9]) (.seq (.seq (.region f294r2 [0, 2, 3, 8, 9, 16]) (.cond (.t 16) (.exit 0) .skip)) (.seq (.seq (.dregion f294r3 [] [] [0, 2, 3, 8, 9, 36]) (.cond (.t 36) (.region f294r4 [0, 2, 3, 8, 9]) .skip)) (.seq (.seq (.dregion f294r5 [] [] [0, 2, 3, 8, 9, 52]) (.cond (.t 52) .ret .skip)) (.seq (.dregion f294r6 [] [] [0, 2, 3, 9]) (.region f294r7 [0, 2, 3, 8])))))))
def f294L0 : RC := .loop [0, 2, 3, 8] f294B0
def f294 : RFunc := ⟨[], (.seq (.region f294r0 [0, 2, 3, 8]) (.block 0 f294L0)), true⟩

/-! slices.nextPowerOfTwo -/
@[simp] def f295r0 : List ROper := [
  ⟨some 2, .mv (.c (.int .u64 (.ofNat 0))), none⟩]
@[simp] def f295r1 : List ROper := [
  ⟨some 3, .mv (.t 0), none⟩,
  ⟨some 4, .i2i .u64 (.t 3), none⟩,
  ⟨some 5, .call 281 [(.t 4)], none⟩,
  ⟨some 6, .bin .shl (.c (.int .u64 (.ofNat 1))) (.t 5), none⟩,
  ⟨some 2, .mv (.t 6), none⟩]
def f295 : RFunc := ⟨[.t 2], (.seq (.region f295r0 [0]) (.seq (.region f295r1 [2]) .ret)), true⟩

/-! (*slices.xorshift).Next -/
@[simp] def f296r0 : List ROper := [
  ⟨some 2, .mv (.c (.int .u64 (.ofNat 0))), none⟩]
@[simp] def f296r1 : List ROper := [
  ⟨some 3, .mv (.t 0), none⟩,
  ⟨some 4, .nilchk (.t 3), none⟩,
  ⟨some 5, .load 1 false (.t 4), none⟩,
  ⟨some 6, .mv (.t 0), none⟩,
  ⟨some 7, .nilchk (.t 6), none⟩,
  ⟨some 8, .load 1 false (.t 7), none⟩,
  ⟨some 9, .bin .shl (.t 8) (.c (.int .u64 (.ofNat 13))), none⟩,
  ⟨some 10, .bin .xor (.t 5) (.t 9), none⟩,
  ⟨some 11, .nilchk (.t 3), none⟩,
  ⟨none, .store 1 (.t 11) (.t 10), none⟩]
@[simp] def f296r2 : List ROper := [
  ⟨some 12, .mv (.t 0), none⟩,
  ⟨some 13, .nilchk (.t 12), none⟩,
  ⟨some 14, .load 1 false (.t 13), none⟩,
  ⟨some 15, .mv (.t 0), none⟩,
  ⟨some 16, .nilchk (.t 15), none⟩,
  ⟨some 17, .load 1 false (.t 16), none⟩,
  ⟨some 18, .bin .shr (.t 17) (.c (.int .u64 (.ofNat 7))), none⟩,
  ⟨some 19, .bin .xor (.t 14) (.t 18), none⟩,
  ⟨some 20, .nilchk (.t 12), none⟩,
  ⟨none, .store 1 (.t 20) (.t 19), none⟩]
@[simp] def f296r3 : List ROper := [
  ⟨some 21, .mv (.t 0), none⟩,
  ⟨some 22, .nilchk (.t 21), none⟩,
  ⟨some 23, .load 1 false (.t 22), none⟩,
  ⟨some 24, .mv (.t 0), none⟩,
  ⟨some 25, .nilchk (.t 24), none⟩,
  ⟨some 26, .load 1 false (.t 25), none⟩,
  ⟨some 27, .bin .shl (.t 26) (.c (.int .u64 (.ofNat 17))), none⟩,
  ⟨some 28, .bin .xor (.t 23) (.t 27), none⟩,
  ⟨some 29, .nilchk (.t 21), none⟩,
  ⟨none, .store 1 (.t 29) (.t 28), none⟩]
@[simp] def f296r4 : List ROper := [
  ⟨some 30, .mv (.t 0), none⟩,
  ⟨some 31, .nilchk (.t 30), none⟩,
  ⟨some 32, .load 1 false (.t 31), none⟩,
  ⟨some 2, .mv (.t 32), none⟩]
def f296 : RFunc := ⟨[.t 2], (.seq (.region f296r0 [0]) (.seq (.dregion f296r1 [] [] [0]) (.seq (.dregion f296r2 [] [] [0]) (.seq (.dregion f296r3 [] [] [0]) (.seq (.region f296r4 [2]) .ret))))), false⟩

/-! slices.medianAdjacentOrdered[int] -/
@[simp] def f297r0 : List ROper := [
  ⟨some 6, .mv (.c (.int .i64 (.ofNat 0))), none⟩]
@[simp] def f297r1 : List ROper := [
  ⟨some 7, .mv (.t 0), none⟩,
  ⟨some 8, .mv (.t 1), none⟩,
  ⟨some 9, .bin .sub (.t 8) (.c (.int .i64 (.ofNat 1))), none⟩,
  ⟨some 10, .mv (.t 1), none⟩,
  ⟨some 11, .mv (.t 1), none⟩,
  ⟨some 12, .bin .add (.t 11) (.c (.int .i64 (.ofNat 1))), none⟩,
  ⟨some 13, .mv (.t 2), none⟩,
  ⟨some 14, .call 298 [(.t 7), (.t 9), (.t 10), (.t 12), (.t 13)], none⟩,
  ⟨some 6, .mv (.t 14), none⟩]
def f297 : RFunc := ⟨[.t 6], (.seq (.region f297r0 [0, 1, 2]) (.seq (.region f297r1 [6]) .ret)), false⟩

/-! slices.medianOrdered[int] -/
@[simp] def f298r0 : List ROper := [
  ⟨some 10, .mv (.c (.int .i64 (.ofNat 0))), none⟩]
@[simp] def f298r1 : List ROper := [
  ⟨some 12, .mv (.t 0), none⟩,
  ⟨some 13, .mv (.t 1), none⟩,
  ⟨some 14, .mv (.t 2), none⟩,
  ⟨some 15, .mv (.t 4), none⟩,
  ⟨some 16, .call 299 [(.t 12), (.t 13), (.t 14), (.t 15)], none⟩,
  ⟨some 11, .mv (.t 16), none⟩,
  ⟨some 17, .extract (.t 11) 0, none⟩,
  ⟨some 18, .extract (.t 11) 1, none⟩,
  ⟨some 1, .mv (.t 17), none⟩,
  ⟨some 2, .mv (.t 18), none⟩]
@[simp] def f298r2 : List ROper := [
  ⟨some 20, .mv (.t 0), none⟩,
  ⟨some 21, .mv (.t 2), none⟩,
  ⟨some 22, .mv (.t 3), none⟩,
  ⟨some 23, .mv (.t 4), none⟩,
  ⟨some 24, .call 299 [(.t 20), (.t 21), (.t 22), (.t 23)], none⟩,
  ⟨some 19, .mv (.t 24), none⟩,
  ⟨some 25, .extract (.t 19) 0, none⟩,
  ⟨some 26, .extract (.t 19) 1, none⟩,
  ⟨some 2, .mv (.t 25), none⟩,
  ⟨some 3, .mv (.t 26), none⟩]
@[simp] def f298r3 : List ROper := [
  ⟨some 28, .mv (.t 0), none⟩,
  ⟨some 29, .mv (.t 1), none⟩,
  ⟨some 30, .mv (.t 2), none⟩,
  ⟨some 31, .mv (.t 4), none⟩,
  ⟨some 32, .call 299 [(.t 28), (.t 29), (.t 30), (.t 31)], none⟩,
  ⟨some 27, .mv (.t 32), none⟩,
  ⟨some 33, .extract (.t 27) 0, none⟩,
  ⟨some 34, .extract (.t 27) 1, none⟩,
  ⟨some 1, .mv (.t 33), none⟩,
  ⟨some 2, .mv (.t 34), none⟩]
@[simp] def f298r4 : List ROper := [
  ⟨some 35, .mv (.t 2), none⟩,
  ⟨some 10, .mv (.t 35), none⟩]
def f298 : RFunc := ⟨[.t 10], (.seq (.region f298r0 [0, 1, 2, 3, 4]) (.seq (.region f298r1 [0, 1, 2, 3, 4]) (.seq (.region f298r2 [0, 1, 2, 4]) (.seq (.region f298r3 [2]) (.seq (.region f298r4 [10]) .ret))))), false⟩

/-! slices.order2Ordered[int] -/
@[simp] def f299r0 : List ROper := [
  ⟨some 8, .mv (.c (.int .i64 (.ofNat 0))), none⟩,
  ⟨some 9, .mv (.c (.int .i64 (.ofNat 0))), none⟩]
@[simp] def f299r1 : List ROper := [
  ⟨some 10, .mv (.t 0), none⟩,
  ⟨some 11, .mv (.t 2), none⟩,
  ⟨some 12, .iaddr 1 (.t 10) (.t 11), none⟩,
  ⟨some 13, .load 1 false (.t 12), none⟩,
  ⟨some 14, .mv (.t 0), none⟩,
  ⟨some 15, .mv (.t 1), none⟩,
  ⟨some 16, .iaddr 1 (.t 14) (.t 15), none⟩,
  ⟨some 17, .load 1 false (.t 16), none⟩,
  ⟨some 18, .call 289 [(.t 13), (.t 17)], none⟩]
@[simp] def f299r2 : List ROper := [
  ⟨some 19, .mv (.t 3), none⟩,
  ⟨some 20, .nilchk (.t 19), none⟩,
  ⟨some 21, .load 1 false (.t 20), none⟩,
  ⟨some 22, .bin .add (.t 21) (.c (.int .i64 (.ofNat 1))), none⟩,
  ⟨some 23, .nilchk (.t 19), none⟩,
  ⟨none, .store 1 (.t 23) (.t 22), none⟩]
@[simp] def f299r3 : List ROper := [
  ⟨some 24, .mv (.t 2), none⟩,
  ⟨some 25, .mv (.t 1), none⟩,
  ⟨some 8, .mv (.t 24), none⟩,
  ⟨some 9, .mv (.t 25), none⟩]
@[simp] def f299r4 : List ROper := [
  ⟨some 26, .mv (.t 1), none⟩,
  ⟨some 27, .mv (.t 2), none⟩,
  ⟨some 8, .mv (.t 26), none⟩,
  ⟨some 9, .mv (.t 27), none⟩]
def f299 : RFunc := ⟨[.t 8, .t 9], (.seq (.region f299r0 [0, 1, 2, 3]) (.seq (.seq (.dregion f299r1 [] [] [1, 2, 3, 18]) (.cond (.t 18) (.seq (.region f299r2 [1, 2]) (.seq (.region f299r3 [8, 9]) .ret)) .skip)) (.seq (.region f299r4 [8, 9]) .ret))), false⟩

/-! quire/para.Lay -/
@[simp] def f307r0 : List ROper := [
  ⟨some 3, .box 21 (.t 0), none⟩,
  ⟨some 5, .box 2 (.t 2), none⟩,
  ⟨some 6, .mv (.c (.list 0 0 .no false [])), none⟩,
  ⟨some 7, .mv (.c (.int .i64 (.ofNat 0))), none⟩]
@[simp] def f307r1 : List ROper := [
  ⟨some 24, .load 21 true (.t 3), none⟩,
  ⟨some 25, .mv (.t 1), none⟩,
  ⟨some 26, .load 2 true (.t 5), none⟩,
  ⟨some 27, .call 319 [(.t 24), (.t 25), (.t 26)], none⟩,
  ⟨some 8, .mv (.t 27), none⟩]
@[simp] def f307r2 : List ROper := [
  ⟨some 28, .mv (.t 8), none⟩,
  ⟨some 29, .bin .neq (.t 28) (.c (.int .i64 (.ofNat 0))), none⟩]
@[simp] def f307r3 : List ROper := [
  ⟨some 30, .mv (.t 8), none⟩,
  ⟨some 6, .mv (.c (.list 0 0 .no false [])), none⟩,
  ⟨some 7, .mv (.t 30), none⟩]
@[simp] def f307r4 : List ROper := [
  ⟨some 32, .load 21 true (.t 3), none⟩,
  ⟨some 33, .call 106 [(.t 32)], none⟩,
  ⟨some 31, .mv (.t 33), none⟩,
  ⟨some 34, .extract (.t 31) 0, none⟩,
  ⟨some 35, .extract (.t 31) 1, none⟩,
  ⟨some 9, .mv (.t 34), none⟩,
  ⟨some 10, .mv (.t 35), none⟩]
@[simp] def f307r5 : List ROper := [
  ⟨some 37, .load 21 true (.t 3), none⟩,
  ⟨some 38, .mv (.t 1), none⟩,
  ⟨some 39, .load 2 true (.t 5), none⟩,
  ⟨some 40, .call 320 [(.t 37), (.t 38), (.t 39)], none⟩,
  ⟨some 36, .mv (.t 40), none⟩,
  ⟨some 41, .extract (.t 36) 0, none⟩,
  ⟨some 42, .extract (.t 36) 1, none⟩,
  ⟨some 12, .alloc [(.int .i64 (.ofNat 0)), (.int .i64 (.ofNat 0))], none⟩,
  ⟨some 11, .mv (.t 41), none⟩,
  ⟨none, .store 2 (.t 12) (.t 42), none⟩]
@[simp] def f307r6 : List ROper := [
  ⟨some 43, .load 21 true (.t 3), none⟩,
  ⟨some 44, .mv (.t 9), none⟩,
  ⟨some 45, .mv (.t 11), none⟩,
  ⟨some 46, .load 2 true (.t 12), none⟩,
  ⟨some 47, .call 321 [(.t 43), (.t 44), (.t 45), (.t 46)], none⟩,
  ⟨some 13, .alloc [(.list 0 0 .no false []), (.bool false), (.bool false)], none⟩,
  ⟨none, .store 3 (.t 13) (.t 47), none⟩]
@[simp] def f307r7 : List ROper := [
  ⟨some 14, .mv (.c (.list 0 0 .no false [])), none⟩]
@[simp] def f307r8 : List ROper := [
  ⟨some 15, .mv (.c (.int .i64 (.ofNat 0))), none⟩]
@[simp] def f307r9 : List ROper := [
  ⟨some 48, .faddr 0 (.t 13), none⟩,
  ⟨some 49, .load 1 false (.t 48), none⟩,
  ⟨some 50, .len .slice (.t 49), none⟩,
  ⟨some 51, .mv (.c (.int .i64 (.ofNat 0))), none⟩]
@[simp] def f307r10 : List ROper := [
  ⟨some 52, .bin .lss (.t 51) (.t 50), none⟩]
@[simp] def f307r11 : List ROper := [
  ⟨some 53, .mv (.t 51), none⟩,
  ⟨some 54, .iaddr 5 (.t 49) (.t 51), none⟩,
  ⟨some 55, .load 5 true (.t 54), none⟩,
  ⟨some 17, .alloc [(.int .i64 (.ofNat 0)), (.int .i64 (.ofNat 0)), (.bool false), (.bool false), (.int .i64 (.ofNat 0))], none⟩,
  ⟨some 16, .mv (.t 53), none⟩,
  ⟨none, .store 5 (.t 17) (.t 55), none⟩]
@[simp] def f307r12 : List ROper := [
  ⟨some 56, .mv (.t 11), none⟩,
  ⟨some 57, .load 2 true (.t 12), none⟩,
  ⟨some 58, .mv (.t 16), none⟩,
  ⟨some 59, .call 114 [(.t 56), (.t 57), (.t 58)], none⟩,
  ⟨some 18, .alloc [(.int .i64 (.ofNat 0)), (.int .i64 (.ofNat 0))], none⟩,
  ⟨none, .store 2 (.t 18) (.t 59), none⟩]
@[simp] def f307r13 : List ROper := [
  ⟨some 60, .faddr 0 (.t 3), none⟩,
  ⟨some 61, .load 1 false (.t 60), none⟩,
  ⟨some 62, .len .str (.t 61), none⟩,
  ⟨some 19, .mv (.t 62), none⟩]
@[simp] def f307r14 : List ROper := [
  ⟨some 63, .mv (.t 16), none⟩,
  ⟨some 64, .bin .add (.t 63) (.c (.int .i64 (.ofNat 1))), none⟩,
  ⟨some 65, .faddr 0 (.t 13), none⟩,
  ⟨some 66, .load 1 false (.t 65), none⟩,
  ⟨some 67, .len .slice (.t 66), none⟩,
  ⟨some 68, .bin .lss (.t 64) (.t 67), none⟩]
@[simp] def f307r15 : List ROper := [
  ⟨some 69, .mv (.t 9), none⟩,
  ⟨some 70, .faddr 0 (.t 13), none⟩,
  ⟨some 71, .load 1 false (.t 70), none⟩,
  ⟨some 72, .mv (.t 16), none⟩,
  ⟨some 73, .bin .add (.t 72) (.c (.int .i64 (.ofNat 1))), none⟩,
  ⟨some 74, .iaddr 5 (.t 71) (.t 73), none⟩,
  ⟨some 75, .faddr 0 (.t 74), none⟩,
  ⟨some 76, .load 1 false (.t 75), none⟩,
  ⟨some 77, .iaddr 8 (.t 69) (.t 76), none⟩,
  ⟨some 78, .faddr 1 (.t 77), none⟩,
  ⟨some 79, .load 1 false (.t 78), none⟩,
  ⟨some 19, .mv (.t 79), none⟩]
@[simp] def f307r16 : List ROper := [
  ⟨some 80, .mv (.t 15), none⟩,
  ⟨some 81, .mv (.t 19), none⟩,
  ⟨some 82, .faddr 0 (.t 18), none⟩,
  ⟨some 83, .load 1 false (.t 82), none⟩,
  ⟨some 84, .faddr 1 (.t 18), none⟩,
  ⟨some 85, .load 1 false (.t 84), none⟩,
  ⟨some 86, .faddr 4 (.t 17), none⟩,
  ⟨some 87, .load 1 false (.t 86), none⟩,
  ⟨some 88, .faddr 3 (.t 17), none⟩,
  ⟨some 89, .load 1 false (.t 88), none⟩,
  ⟨some 90, .build [(.int .i64 (.ofNat 0)), (.int .i64 (.ofNat 0)), (.int .i64 (.ofNat 0)), (.int .i64 (.ofNat 0)), (.int .i64 (.ofNat 0)), (.bool false), (.int .i64 (.ofNat 0))] [(0, 1, (.t 80)), (1, 1, (.t 81)), (2, 1, (.t 83)), (3, 1, (.t 85)), (4, 1, (.t 87)), (5, 1, (.t 89))], none⟩,
  ⟨some 20, .alloc [(.int .i64 (.ofNat 0)), (.int .i64 (.ofNat 0)), (.int .i64 (.ofNat 0)), (.int .i64 (.ofNat 0)), (.int .i64 (.ofNat 0)), (.bool false), (.int .i64 (.ofNat 0))], none⟩,
  ⟨none, .store 7 (.t 20) (.t 90), none⟩]
@[simp] def f307r17 : List ROper := [
  ⟨some 92, .mv (.t 9), none⟩,
  ⟨some 93, .faddr 0 (.t 17), none⟩,
  ⟨some 94, .load 1 false (.t 93), none⟩,
  ⟨some 95, .faddr 1 (.t 17), none⟩,
  ⟨some 96, .load 1 false (.t 95), none⟩,
  ⟨some 97, .call 322 [(.t 92), (.t 94), (.t 96)], none⟩,
  ⟨some 91, .mv (.t 97), none⟩,
  ⟨some 98, .extract (.t 91) 0, none⟩,
  ⟨some 99, .extract (.t 91) 1, none⟩,
  ⟨some 100, .extract (.t 91) 2, none⟩,
  ⟨some 21, .mv (.t 98), none⟩,
  ⟨some 22, .mv (.t 99), none⟩,
  ⟨some 23, .mv (.t 100), none⟩]
@[simp] def f307r18 : List ROper := [
  ⟨some 101, .faddr 1 (.t 13), none⟩,
  ⟨some 102, .load 1 false (.t 101), none⟩,
  ⟨some 103, .mv (.t 102), none⟩,
  ⟨some 104, .faddr 2 (.t 17), some (103, true)⟩,
  ⟨some 105, .load 1 false (.t 104), some (103, true)⟩,
  ⟨some 106, .pick (.t 103) (.t 105) (.c (.bool false)), none⟩,
  ⟨some 107, .mv (.t 106), none⟩,
  ⟨some 108, .faddr 1 (.t 13), some (107, false)⟩,
  ⟨some 109, .load 1 false (.t 108), some (107, false)⟩,
  ⟨some 110, .un .not (.t 109), some (107, false)⟩,
  ⟨some 111, .mv (.t 110), some (107, false)⟩,
  ⟨some 112, .faddr 4 (.t 17), some (111, true)⟩,
  ⟨some 113, .load 1 false (.t 112), some (111, true)⟩,
  ⟨some 114, .faddr 1 (.t 18), some (111, true)⟩,
  ⟨some 115, .load 1 false (.t 114), some (111, true)⟩,
  ⟨some 116, .mv (.t 22), some (111, true)⟩,
  ⟨some 117, .bin .add (.t 115) (.t 116), some (111, true)⟩,
  ⟨some 118, .bin .gtr (.t 113) (.t 117), some (111, true)⟩,
  ⟨some 119, .pick (.t 111) (.t 118) (.c (.bool false)), some (107, false)⟩,
  ⟨some 120, .pick (.t 107) (.c (.bool true)) (.t 119), none⟩]
@[simp] def f307r19 : List ROper := [
  ⟨some 121, .faddr 6 (.t 20), none⟩,
  ⟨some 122, .load 1 false (.t 121), none⟩,
  ⟨some 123, .bin .add (.t 122) (.c (.int .i64 (.ofNat 1))), none⟩,
  ⟨some 124, .faddr 6 (.t 20), none⟩,
  ⟨none, .store 1 (.t 124) (.t 123), none⟩]
@[simp] def f307r20 : List ROper := [
  ⟨some 125, .faddr 2 (.t 13), none⟩,
  ⟨some 126, .load 1 false (.t 125), none⟩]
@[simp] def f307r21 : List ROper := [
  ⟨some 127, .faddr 6 (.t 20), none⟩,
  ⟨some 128, .load 1 false (.t 127), none⟩,
  ⟨some 129, .bin .add (.t 128) (.c (.int .i64 (.ofNat 2))), none⟩,
  ⟨some 130, .faddr 6 (.t 20), none⟩,
  ⟨none, .store 1 (.t 130) (.t 129), none⟩]
@[simp] def f307r22 : List ROper := [
  ⟨some 131, .mv (.t 14), none⟩,
  ⟨some 132, .load 7 true (.t 20), none⟩,
  ⟨some 133, .lit 7 true [(.int .i64 (.ofNat 0)), (.int .i64 (.ofNat 0)), (.int .i64 (.ofNat 0)), (.int .i64 (.ofNat 0)), (.int .i64 (.ofNat 0)), (.bool false), (.int .i64 (.ofNat 0))] 1 [(0, (.t 132))], none⟩,
  ⟨some 134, .append 7 true 56 (.t 131) (.t 133), none⟩,
  ⟨some 14, .mv (.t 134), none⟩]
@[simp] def f307r23 : List ROper := [
  ⟨some 135, .mv (.t 19), none⟩,
  ⟨some 15, .mv (.t 135), none⟩]
@[simp] def f307r24 : List ROper := [
  ⟨some 136, .bin .add (.t 51) (.c (.int .i64 (.ofNat 1))), none⟩,
  ⟨some 51, .mv (.t 136), none⟩]
def f307B0 : RC := (.seq (.region f307r10 [3, 9, 11, 12, 13, 14, 15, 49, 50, 51, 52]) (.seq (.cond (.t 52) .skip (.exit 0)) (.seq (.block 1 (.seq (.region f307r11 [3, 9, 11, 12, 13, 14, 15, 16, 17, 49, 50, 51]) (.seq (.region f307r12 [3, 9, 11, 12, 13, 14, 15, 16, 17, 18, 49, 50, 51]) (.seq (.region f307r13 [3, 9, 11, 12, 13, 14, 15, 16, 17, 18, 19, 49, 50, 51]) (.seq (.seq (.region f307r14 [3, 9, 11, 12, 13, 14, 15, 16, 17, 18, 19, 49, 50, 51, 68]) (.cond (.t 68) (.region f307r15 [3, 9, 11, 12, 13, 14, 15, 17, 18, 19, 49, 50, 51]) .skip)) (.seq (.region f307r16 [3, 9, 11, 12, 13, 14, 17, 18, 19, 20, 49, 50, 51]) (.seq (.region f307r17 [3, 9, 11, 12, 13, 14, 17, 18, 19, 20, 22, 49, 50, 51]) (.seq (.seq (.region f307r18 [3, 9, 11, 12, 13, 14, 19, 20, 49, 50, 51, 120]) (.cond (.t 120) (.region f307r19 [3, 9, 11, 12, 13, 14, 19, 20, 49, 50, 51]) .skip)) (.seq (.seq (.region f307r20 [3, 9, 11, 12, 13, 14, 19, 20, 49, 50, 51, 126]) (.cond (.t 126) (.region f307r21 [3, 9, 11, 12, 13, 14, 19, 20, 49, 50, 51]) .skip)) (.seq (.region f307r22 [3, 9, 11, 12, 13, 14, 19, 49, 50, 51]) (.region f307r23 [3, 9, 11, 12, 13, 14, 15, 49, 50, 51]))))))))))) (.region f307r24 [3, 9, 11, 12, 13, 14, 15, 49, 50, 51]))))
def f307L0 : RC := .loop [3, 9, 11, 12, 13, 14, 15, 49, 50, 51] f307B0
@[simp] def f307r25 : List ROper := [
  ⟨some 137, .mv (.t 14), none⟩,
  ⟨some 6, .mv (.t 137), none⟩,
  ⟨some 7, .mv (.c (.int .i64 (.ofNat 0))), none⟩]
def f307 : RFunc := ⟨[.t 6, .t 7], (.seq (.region f307r0 [1, 3, 5]) (.seq (.seq (.region f307r1 [1, 3, 5, 8]) (.seq (.region f307r2 [1, 3, 5, 8, 29]) (.cond (.t 29) (.seq (.region f307r3 [6, 7]) .ret) .skip))) (.seq (.region f307r4 [1, 3, 5, 9]) (.seq (.region f307r5 [3, 9, 11, 12]) (.seq (.region f307r6 [3, 9, 11, 12, 13]) (.seq (.region f307r7 [3, 9, 11, 12, 13, 14]) (.seq (.region f307r8 [3, 9, 11, 12, 13, 14, 15]) (.seq (.seq (.region f307r9 [3, 9, 11, 12, 13, 14, 15, 49, 50, 51]) (.block 0 f307L0)) (.seq (.region f307r25 [6, 7]) .ret))))))))), true⟩

/-! quire/quirekit.SameLines -/
@[simp] def f309r0 : List ROper := [
  ⟨some 4, .mv (.c (.bool false)), none⟩]
@[simp] def f309r1 : List ROper := [
  ⟨some 6, .mv (.t 0), none⟩,
  ⟨some 7, .len .slice (.t 6), none⟩,
  ⟨some 8, .mv (.t 1), none⟩,
  ⟨some 9, .len .slice (.t 8), none⟩,
  ⟨some 10, .bin .neq (.t 7) (.t 9), none⟩]
@[simp] def f309r2 : List ROper := [
  ⟨some 4, .mv (.c (.bool false)), none⟩]
@[simp] def f309r3 : List ROper := [
  ⟨some 5, .mv (.c (.int .i64 (.ofNat 0))), none⟩]
@[simp] def f309r4 : List ROper := [
  ⟨some 11, .mv (.t 5), none⟩,
  ⟨some 12, .mv (.t 0), none⟩,
  ⟨some 13, .len .slice (.t 12), none⟩,
  ⟨some 14, .bin .lss (.t 11) (.t 13), none⟩]
@[simp] def f309r5 : List ROper := [
  ⟨some 17, .mv (.t 0), none⟩,
  ⟨some 18, .mv (.t 5), none⟩,
  ⟨some 19, .iaddr 7 (.t 17) (.t 18), none⟩,
  ⟨some 20, .load 7 true (.t 19), none⟩,
  ⟨some 21, .mv (.t 1), none⟩,
  ⟨some 22, .mv (.t 5), none⟩,
  ⟨some 23, .iaddr 7 (.t 21) (.t 22), none⟩,
  ⟨some 24, .load 7 true (.t 23), none⟩,
  ⟨some 25, .eq (.agg [.int, .int, .int, .int, .int, .bool, .int]) true (.t 20) (.t 24), none⟩]
@[simp] def f309r6 : List ROper := [
  ⟨some 4, .mv (.c (.bool false)), none⟩]
@[simp] def f309r7 : List ROper := [
  ⟨some 15, .mv (.t 5), none⟩,
  ⟨some 16, .bin .add (.t 15) (.c (.int .i64 (.ofNat 1))), none⟩,
  ⟨some 5, .mv (.t 16), none⟩]
def f309B0 : RC := (.seq (.seq (.region f309r4 [0, 1, 5, 14]) (.cond (.t 14) .skip (.exit 0))) (.seq (.block 1 (.seq (.dregion f309r5 [] [] [0, 1, 5, 25]) (.cond (.t 25) (.seq (.region f309r6 [4]) .ret) .skip))) (.region f309r7 [0, 1, 5])))
def f309L0 : RC := .loop [0, 1, 5] f309B0
@[simp] def f309r8 : List ROper := [
  ⟨some 4, .mv (.c (.bool true)), none⟩]
def f309 : RFunc := ⟨[.t 4], (.seq (.region f309r0 [0, 1]) (.seq (.seq (.region f309r1 [0, 1, 10]) (.cond (.t 10) (.seq (.region f309r2 [4]) .ret) .skip)) (.seq (.seq (.region f309r3 [0, 1, 5]) (.block 0 f309L0)) (.seq (.region f309r8 [4]) .ret)))), true⟩

/-! quire/quirekit.OverLines -/
@[simp] def f317r0 : List ROper := [
  ⟨some 4, .mv (.t 0), none⟩,
  ⟨some 5, .mv (.t 0), none⟩,
  ⟨some 6, .cap (.t 5), none⟩,
  ⟨some 7, .slice false 7 (.t 4) none (some (.t 6)) none, none⟩,
  ⟨some 2, .mv (.t 7), none⟩]
@[simp] def f317r1 : List ROper := [
  ⟨some 3, .mv (.c (.int .i64 (.ofNat 0))), none⟩]
@[simp] def f317r2 : List ROper := [
  ⟨some 8, .mv (.t 3), none⟩,
  ⟨some 9, .mv (.t 2), none⟩,
  ⟨some 10, .len .slice (.t 9), none⟩,
  ⟨some 11, .bin .lss (.t 8) (.t 10), none⟩]
@[simp] def f317r3 : List ROper := [
  ⟨some 14, .mv (.t 2), none⟩,
  ⟨some 15, .mv (.t 3), none⟩,
  ⟨some 16, .mv (.t 2), none⟩,
  ⟨some 17, .mv (.t 3), none⟩,
  ⟨some 18, .iaddr 7 (.t 16) (.t 17), none⟩,
  ⟨some 19, .faddr 0 (.t 18), none⟩,
  ⟨some 20, .load 1 false (.t 19), none⟩,
  ⟨some 21, .bin .xor (.t 20) (.c (.int .i64 (.ofNat 1))), none⟩,
  ⟨some 22, .iaddr 7 (.t 14) (.t 15), none⟩,
  ⟨some 23, .faddr 0 (.t 22), none⟩,
  ⟨none, .store 1 (.t 23) (.t 21), none⟩]
@[simp] def f317r4 : List ROper := [
  ⟨some 12, .mv (.t 3), none⟩,
  ⟨some 13, .bin .add (.t 12) (.c (.int .i64 (.ofNat 1))), none⟩,
  ⟨some 3, .mv (.t 13), none⟩]
def f317B0 : RC := (.seq (.seq (.region f317r2 [2, 3, 11]) (.cond (.t 11) .skip (.exit 0))) (.seq (.block 1 (.region f317r3 [2, 3])) (.region f317r4 [2, 3])))
def f317L0 : RC := .loop [2, 3] f317B0
def f317 : RFunc := ⟨[], (.seq (.region f317r0 [2]) (.seq (.region f317r1 [2, 3]) (.block 0 f317L0))), false⟩

/-! quire/para.wrong -/
@[simp] def f319r0 : List ROper := [
  ⟨some 3, .box 21 (.t 0), none⟩,
  ⟨some 5, .box 2 (.t 2), none⟩,
  ⟨some 6, .mv (.c (.int .i64 (.ofNat 0))), none⟩]
@[simp] def f319r1 : List ROper := [
  ⟨some 8, .load 21 true (.t 3), none⟩,
  ⟨some 9, .call 13 [(.t 8)], none⟩,
  ⟨some 7, .mv (.t 9), none⟩]
@[simp] def f319r2 : List ROper := [
  ⟨some 10, .mv (.t 7), none⟩,
  ⟨some 11, .bin .neq (.t 10) (.c (.int .i64 (.ofNat 0))), none⟩]
@[simp] def f319r3 : List ROper := [
  ⟨some 12, .mv (.t 7), none⟩,
  ⟨some 6, .mv (.t 12), none⟩]
@[simp] def f319r4 : List ROper := [
  ⟨some 13, .mv (.t 1), none⟩,
  ⟨some 14, .load 2 true (.t 5), none⟩,
  ⟨some 15, .call 126 [(.t 13), (.t 14)], none⟩,
  ⟨some 6, .mv (.t 15), none⟩]
def f319 : RFunc := ⟨[.t 6], (.seq (.region f319r0 [1, 3, 5]) (.seq (.seq (.region f319r1 [1, 5, 7]) (.seq (.region f319r2 [1, 5, 7, 11]) (.cond (.t 11) (.seq (.region f319r3 [6]) .ret) .skip))) (.seq (.region f319r4 [6]) .ret))), true⟩

/-! quire/para.inside -/
@[simp] def f320r0 : List ROper := [
  ⟨some 3, .box 21 (.t 0), none⟩,
  ⟨some 5, .box 2 (.t 2), none⟩,
  ⟨some 6, .mv (.c (.list 0 0 .no false [])), none⟩,
  ⟨some 7, .alloc [(.int .i64 (.ofNat 0)), (.int .i64 (.ofNat 0))], none⟩]
@[simp] def f320r1 : List ROper := [
  ⟨some 12, .load 21 true (.t 3), none⟩,
  ⟨some 13, .call 330 [(.t 12)], none⟩,
  ⟨some 8, .mv (.t 13), none⟩]
@[simp] def f320r2 : List ROper := [
  ⟨some 14, .mv (.t 1), none⟩,
  ⟨some 15, .len .slice (.t 14), none⟩,
  ⟨some 16, .faddr 2 (.t 3), none⟩,
  ⟨some 17, .faddr 14 (.t 16), none⟩,
  ⟨some 18, .load 1 false (.t 17), none⟩,
  ⟨some 19, .max [(.t 15), (.c (.int .i64 (.ofNat 1))), (.t 18)], none⟩,
  ⟨some 9, .mv (.t 19), none⟩]
@[simp] def f320r3 : List ROper := [
  ⟨some 10, .mv (.c (.list 0 0 .no false [])), none⟩]
@[simp] def f320r4 : List ROper := [
  ⟨some 20, .mv (.t 9), none⟩,
  ⟨some 21, .mv (.c (.int .i64 (.ofNat 0))), none⟩]
@[simp] def f320r5 : List ROper := [
  ⟨some 22, .bin .lss (.t 21) (.t 20), none⟩]
@[simp] def f320r6 : List ROper := [
  ⟨some 23, .mv (.t 21), none⟩,
  ⟨some 11, .mv (.t 23), none⟩]
@[simp] def f320r7 : List ROper := [
  ⟨some 24, .mv (.t 10), none⟩,
  ⟨some 25, .load 21 true (.t 3), none⟩,
  ⟨some 26, .mv (.t 8), none⟩,
  ⟨some 27, .mv (.t 1), none⟩,
  ⟨some 28, .load 2 true (.t 5), none⟩,
  ⟨some 29, .mv (.t 11), none⟩,
  ⟨some 30, .call 114 [(.t 27), (.t 28), (.t 29)], none⟩,
  ⟨some 31, .mv (.t 11), none⟩,
  ⟨some 32, .call 331 [(.t 25), (.t 26), (.t 30), (.t 31)], none⟩,
  ⟨some 33, .lit 2 true [(.int .i64 (.ofNat 0)), (.int .i64 (.ofNat 0))] 1 [(0, (.t 32))], none⟩,
  ⟨some 34, .append 2 true 16 (.t 24) (.t 33), none⟩,
  ⟨some 10, .mv (.t 34), none⟩]
@[simp] def f320r8 : List ROper := [
  ⟨some 35, .bin .add (.t 21) (.c (.int .i64 (.ofNat 1))), none⟩,
  ⟨some 21, .mv (.t 35), none⟩]
def f320B0 : RC := (.seq (.region f320r5 [1, 3, 5, 7, 8, 9, 10, 20, 21, 22]) (.seq (.cond (.t 22) .skip (.exit 0)) (.seq (.block 1 (.seq (.region f320r6 [1, 3, 5, 7, 8, 9, 10, 11, 20, 21]) (.dregion f320r7 [] [] [1, 3, 5, 7, 8, 9, 10, 20, 21]))) (.region f320r8 [1, 3, 5, 7, 8, 9, 10, 20, 21]))))
def f320L0 : RC := .loop [1, 3, 5, 7, 8, 9, 10, 20, 21] f320B0
@[simp] def f320r9 : List ROper := [
  ⟨some 36, .mv (.t 10), none⟩,
  ⟨some 37, .load 21 true (.t 3), none⟩,
  ⟨some 38, .mv (.t 8), none⟩,
  ⟨some 39, .load 2 true (.t 5), none⟩,
  ⟨some 40, .mv (.t 9), none⟩,
  ⟨some 41, .call 331 [(.t 37), (.t 38), (.t 39), (.t 40)], none⟩,
  ⟨some 6, .mv (.t 36), none⟩,
  ⟨none, .store 2 (.t 7) (.t 41), none⟩]
def f320 : RFunc := ⟨[.t 6, .cell 7 2 true], (.seq (.region f320r0 [1, 3, 5, 7]) (.seq (.region f320r1 [1, 3, 5, 7, 8]) (.seq (.region f320r2 [1, 3, 5, 7, 8, 9]) (.seq (.region f320r3 [1, 3, 5, 7, 8, 9, 10]) (.seq (.seq (.region f320r4 [1, 3, 5, 7, 8, 9, 10, 20, 21]) (.block 0 f320L0)) (.seq (.region f320r9 [6, 7]) .ret)))))), true⟩

/-! quire/para.pieces -/
@[simp] def f321r0 : List ROper := [
  ⟨some 4, .box 21 (.t 0), none⟩,
  ⟨some 7, .box 2 (.t 3), none⟩,
  ⟨some 8, .alloc [(.list 0 0 .no false []), (.bool false), (.bool false)], none⟩]
@[simp] def f321r1 : List ROper := [
  ⟨some 9, .mv (.f 113), none⟩,
  ⟨some 10, .mv (.c (.bool true)), none⟩]
@[simp] def f321r2 : List ROper := [
  ⟨some 13, .faddr 2 (.t 4), none⟩,
  ⟨some 14, .faddr 13 (.t 13), none⟩,
  ⟨some 15, .load 1 false (.t 14), none⟩,
  ⟨some 16, .bin .eql (.t 15) (.c (.int .i64 (.ofNat 1))), none⟩,
  ⟨some 17, .mv (.t 16), none⟩,
  ⟨some 18, .mv (.t 1), some (17, true)⟩,
  ⟨some 19, .call 108 [(.t 18)], some (17, true)⟩,
  ⟨some 20, .un .not (.t 19), some (17, true)⟩,
  ⟨some 21, .pick (.t 17) (.t 20) (.c (.bool false)), none⟩]
@[simp] def f321r3 : List ROper := [
  ⟨some 9, .mv (.f 332), none⟩,
  ⟨some 10, .mv (.c (.bool false)), none⟩]
@[simp] def f321r4 : List ROper := [
  ⟨some 23, .mv (.t 9), none⟩,
  ⟨some 24, .mv (.t 1), none⟩,
  ⟨some 25, .mv (.t 2), none⟩,
  ⟨some 26, .load 2 true (.t 7), none⟩,
  ⟨some 27, .callv (.t 23) [(.t 24), (.t 25), (.t 26)], none⟩,
  ⟨some 22, .mv (.t 27), none⟩,
  ⟨some 28, .extract (.t 22) 0, none⟩,
  ⟨some 29, .extract (.t 22) 1, none⟩,
  ⟨some 11, .mv (.t 28), none⟩,
  ⟨some 12, .mv (.t 29), none⟩]
@[simp] def f321r5 : List ROper := [
  ⟨some 30, .mv (.t 12), none⟩,
  ⟨some 31, .bin .eql (.t 30) (.c (.int .i64 (.ofNat 0))), none⟩]
@[simp] def f321r6 : List ROper := [
  ⟨some 32, .mv (.t 11), none⟩,
  ⟨some 33, .mv (.t 10), none⟩,
  ⟨some 34, .build [(.list 0 0 .no false []), (.bool false), (.bool false)] [(0, 1, (.t 32)), (1, 1, (.t 33)), (2, 1, (.c (.bool false)))], none⟩,
  ⟨none, .store 3 (.t 8) (.t 34), none⟩]
@[simp] def f321r7 : List ROper := [
  ⟨some 36, .mv (.t 1), none⟩,
  ⟨some 37, .mv (.t 2), none⟩,
  ⟨some 38, .load 2 true (.t 7), none⟩,
  ⟨some 39, .call 113 [(.t 36), (.t 37), (.t 38)], none⟩,
  ⟨some 35, .mv (.t 39), none⟩,
  ⟨some 40, .extract (.t 35) 0, none⟩,
  ⟨some 41, .extract (.t 35) 1, none⟩,
  ⟨some 11, .mv (.t 40), none⟩]
@[simp] def f321r8 : List ROper := [
  ⟨some 42, .mv (.t 11), none⟩,
  ⟨some 43, .build [(.list 0 0 .no false []), (.bool false), (.bool false)] [(0, 1, (.t 42)), (1, 1, (.c (.bool true))), (2, 1, (.c (.bool true)))], none⟩,
  ⟨none, .store 3 (.t 8) (.t 43), none⟩]
def f321 : RFunc := ⟨[.cell 8 3 true], (.seq (.region f321r0 [1, 2, 4, 7, 8]) (.seq (.region f321r1 [1, 2, 4, 7, 8, 9, 10]) (.seq (.seq (.region f321r2 [1, 2, 7, 8, 9, 10, 21]) (.cond (.t 21) (.region f321r3 [1, 2, 7, 8, 9, 10]) .skip)) (.seq (.region f321r4 [1, 2, 7, 8, 10, 11, 12]) (.seq (.seq (.region f321r5 [1, 2, 7, 8, 10, 11, 31]) (.cond (.t 31) (.seq (.region f321r6 [8]) .ret) .skip)) (.seq (.region f321r7 [8, 11]) (.seq (.region f321r8 [8]) .ret))))))), true⟩

/-! quire/item.Give -/
@[simp] def f322r0 : List ROper := [
  ⟨some 6, .mv (.c (.int .i64 (.ofNat 0))), none⟩,
  ⟨some 7, .mv (.c (.int .i64 (.ofNat 0))), none⟩,
  ⟨some 8, .mv (.c (.int .i64 (.ofNat 0))), none⟩]
@[simp] def f322r1 : List ROper := [
  ⟨some 14, .mv (.t 0), none⟩,
  ⟨some 15, .mv (.t 1), none⟩,
  ⟨some 16, .mv (.t 2), none⟩,
  ⟨some 17, .call 121 [(.t 14), (.t 15), (.t 16)], none⟩,
  ⟨some 9, .mv (.t 17), none⟩]
@[simp] def f322r2 : List ROper := [
  ⟨some 18, .mv (.t 9), none⟩,
  ⟨some 19, .bin .neq (.t 18) (.c (.int .i64 (.ofNat 0))), none⟩]
@[simp] def f322r3 : List ROper := [
  ⟨some 20, .mv (.t 9), none⟩,
  ⟨some 6, .mv (.c (.int .i64 (.ofNat 0))), none⟩,
  ⟨some 7, .mv (.c (.int .i64 (.ofNat 0))), none⟩,
  ⟨some 8, .mv (.t 20), none⟩]
@[simp] def f322r4 : List ROper := [
  ⟨some 10, .mv (.c (.int .i64 (.ofNat 0))), none⟩,
  ⟨some 11, .mv (.c (.int .i64 (.ofNat 0))), none⟩]
@[simp] def f322r5 : List ROper := [
  ⟨some 21, .mv (.t 0), none⟩,
  ⟨some 22, .mv (.t 1), none⟩,
  ⟨some 23, .mv (.t 2), none⟩,
  ⟨some 24, .call 123 [(.t 21), (.t 22), (.t 23)], none⟩,
  ⟨some 25, .len .slice (.t 24), none⟩,
  ⟨some 26, .mv (.c (.int .i64 (.ofNat 0))), none⟩]
@[simp] def f322r6 : List ROper := [
  ⟨some 27, .bin .lss (.t 26) (.t 25), none⟩]
@[simp] def f322r7 : List ROper := [
  ⟨some 28, .iaddr 8 (.t 24) (.t 26), none⟩,
  ⟨some 29, .load 8 true (.t 28), none⟩,
  ⟨some 13, .alloc [(.int .i64 (.ofNat 0)), (.int .i64 (.ofNat 0)), (.int .i64 (.ofNat 0)), (.int .i64 (.ofNat 0)), (.int .i64 (.ofNat 0)), (.int .i64 (.ofNat 0)), (.int .i64 (.ofNat 0)), (.bool false)], none⟩,
  ⟨none, .store 8 (.t 13) (.t 29), none⟩]
@[simp] def f322r8 : List ROper := [
  ⟨some 30, .mv (.t 10), none⟩,
  ⟨some 31, .faddr 4 (.t 13), none⟩,
  ⟨some 32, .load 1 false (.t 31), none⟩,
  ⟨some 33, .bin .add (.t 30) (.t 32), none⟩,
  ⟨some 10, .mv (.t 33), none⟩]
@[simp] def f322r9 : List ROper := [
  ⟨some 34, .mv (.t 11), none⟩,
  ⟨some 35, .faddr 5 (.t 13), none⟩,
  ⟨some 36, .load 1 false (.t 35), none⟩,
  ⟨some 37, .bin .add (.t 34) (.t 36), none⟩,
  ⟨some 11, .mv (.t 37), none⟩]
@[simp] def f322r10 : List ROper := [
  ⟨some 38, .bin .add (.t 26) (.c (.int .i64 (.ofNat 1))), none⟩,
  ⟨some 26, .mv (.t 38), none⟩]
def f322B0 : RC := (.seq (.region f322r6 [10, 11, 24, 25, 26, 27]) (.seq (.cond (.t 27) .skip (.exit 0)) (.seq (.block 1 (.seq (.region f322r7 [10, 11, 13, 24, 25, 26]) (.seq (.region f322r8 [10, 11, 13, 24, 25, 26]) (.region f322r9 [10, 11, 24, 25, 26])))) (.region f322r10 [10, 11, 24, 25, 26]))))
def f322L0 : RC := .loop [10, 11, 24, 25, 26] f322B0
@[simp] def f322r11 : List ROper := [
  ⟨some 39, .mv (.t 10), none⟩,
  ⟨some 40, .mv (.t 11), none⟩,
  ⟨some 6, .mv (.t 39), none⟩,
  ⟨some 7, .mv (.t 40), none⟩,
  ⟨some 8, .mv (.c (.int .i64 (.ofNat 0))), none⟩]
def f322 : RFunc := ⟨[.t 6, .t 7, .t 8], (.seq (.region f322r0 [0, 1, 2]) (.seq (.seq (.region f322r1 [0, 1, 2, 9]) (.seq (.region f322r2 [0, 1, 2, 9, 19]) (.cond (.t 19) (.seq (.region f322r3 [6, 7, 8]) .ret) .skip))) (.seq (.region f322r4 [0, 1, 2, 10, 11]) (.seq (.seq (.region f322r5 [10, 11, 24, 25, 26]) (.block 0 f322L0)) (.seq (.region f322r11 [6, 7, 8]) .ret))))), true⟩

/-! quire/para.parts -/
@[simp] def f330r0 : List ROper := [
  ⟨some 1, .box 21 (.t 0), none⟩,
  ⟨some 2, .mv (.c (.list 0 0 .no false [])), none⟩]
@[simp] def f330r1 : List ROper := [
  ⟨some 6, .load 21 true (.t 1), none⟩,
  ⟨some 7, .call 211 [(.t 6)], none⟩,
  ⟨some 5, .mv (.t 7), none⟩,
  ⟨some 8, .extract (.t 5) 0, none⟩,
  ⟨some 9, .extract (.t 5) 1, none⟩,
  ⟨some 3, .alloc [(.int .i64 (.ofNat 0))], none⟩,
  ⟨none, .store 1 (.t 3) (.t 8), none⟩,
  ⟨some 4, .mv (.t 9), none⟩]
@[simp] def f330r2 : List ROper := [
  ⟨some 10, .mkfn 343 [] [(.t 1)], none⟩,
  ⟨some 11, .mkfn 344 [] [(.t 1)], none⟩,
  ⟨some 12, .mkfn 346 [] [(.t 1), (.t 3)], none⟩,
  ⟨some 13, .hlit 1 false [.nilfn] 3 [(0, (.t 10)), (1, (.t 11)), (2, (.t 12))], none⟩,
  ⟨some 2, .mv (.t 13), none⟩]
def f330 : RFunc := ⟨[.t 2], (.seq (.region f330r0 [1]) (.seq (.region f330r1 [1, 3]) (.seq (.region f330r2 [2]) .ret))), false⟩

/-! quire/para.inner -/
@[simp] def f331r0 : List ROper := [
  ⟨some 4, .box 21 (.t 0), none⟩,
  ⟨some 6, .box 2 (.t 2), none⟩,
  ⟨some 8, .alloc [(.int .i64 (.ofNat 0)), (.int .i64 (.ofNat 0))], none⟩]
@[simp] def f331r1 : List ROper := [
  ⟨some 9, .mv (.c (.int .i64 (.ofNat 0))), none⟩]
@[simp] def f331r2 : List ROper := [
  ⟨some 12, .mv (.t 1), none⟩,
  ⟨some 13, .len .slice (.t 12), none⟩,
  ⟨some 14, .mv (.c (.int .i64 (.ofNat 0))), none⟩]
@[simp] def f331r3 : List ROper := [
  ⟨some 15, .bin .lss (.t 14) (.t 13), none⟩]
@[simp] def f331r4 : List ROper := [
  ⟨some 16, .iaddr 1 (.t 12) (.t 14), none⟩,
  ⟨some 17, .load 1 false (.t 16), none⟩,
  ⟨some 11, .mv (.t 17), none⟩]
@[simp] def f331r5 : List ROper := [
  ⟨some 18, .mv (.t 9), none⟩,
  ⟨some 19, .mv (.t 11), none⟩,
  ⟨some 20, .mv (.t 3), none⟩,
  ⟨some 21, .callv (.t 19) [(.t 20)], none⟩,
  ⟨some 22, .bin .add (.t 18) (.t 21), none⟩,
  ⟨some 9, .mv (.t 22), none⟩]
@[simp] def f331r6 : List ROper := [
  ⟨some 23, .bin .add (.t 14) (.c (.int .i64 (.ofNat 1))), none⟩,
  ⟨some 14, .mv (.t 23), none⟩]
def f331B0 : RC := (.seq (.region f331r3 [3, 4, 6, 8, 9, 12, 13, 14, 15]) (.seq (.cond (.t 15) .skip (.exit 0)) (.seq (.block 1 (.seq (.region f331r4 [3, 4, 6, 8, 9, 11, 12, 13, 14]) (.region f331r5 [3, 4, 6, 8, 9, 12, 13, 14]))) (.region f331r6 [3, 4, 6, 8, 9, 12, 13, 14]))))
def f331L0 : RC := .loop [3, 4, 6, 8, 9, 12, 13, 14] f331B0
@[simp] def f331r7 : List ROper := [
  ⟨some 24, .faddr 0 (.t 6), none⟩,
  ⟨some 25, .load 1 false (.t 24), none⟩,
  ⟨some 26, .mv (.t 9), none⟩,
  ⟨some 27, .bin .add (.t 25) (.t 26), none⟩,
  ⟨some 28, .min [(.t 27), (.c (.int .i64 (.ofNat 4095)))], none⟩,
  ⟨some 29, .faddr 1 (.t 6), none⟩,
  ⟨some 30, .load 1 false (.t 29), none⟩,
  ⟨some 31, .mv (.t 9), none⟩,
  ⟨some 32, .bin .sub (.t 30) (.t 31), none⟩,
  ⟨some 33, .faddr 2 (.t 4), none⟩,
  ⟨some 34, .faddr 5 (.t 33), none⟩,
  ⟨some 35, .load 1 false (.t 34), none⟩,
  ⟨some 36, .bin .sub (.t 32) (.t 35), none⟩,
  ⟨some 37, .max [(.t 36), (.c (.int .i64 (.ofNat 0)))], none⟩,
  ⟨some 38, .build [(.int .i64 (.ofNat 0)), (.int .i64 (.ofNat 0))] [(0, 1, (.t 28)), (1, 1, (.t 37))], none⟩,
  ⟨none, .store 2 (.t 8) (.t 38), none⟩]
def f331 : RFunc := ⟨[.cell 8 2 true], (.seq (.region f331r0 [1, 3, 4, 6, 8]) (.seq (.region f331r1 [1, 3, 4, 6, 8, 9]) (.seq (.seq (.region f331r2 [3, 4, 6, 8, 9, 12, 13, 14]) (.block 0 f331L0)) (.seq (.region f331r7 [8]) .ret)))), false⟩

/-! quire/para.best -/
@[simp] def f332r0 : List ROper := [
  ⟨some 5, .box 2 (.t 2), none⟩,
  ⟨some 6, .mv (.c (.list 0 0 .no false [])), none⟩,
  ⟨some 7, .mv (.c (.int .i64 (.ofNat 0))), none⟩]
@[simp] def f332r1 : List ROper := [
  ⟨some 12, .mv (.t 0), none⟩,
  ⟨some 13, .mv (.t 1), none⟩,
  ⟨some 14, .load 2 true (.t 5), none⟩,
  ⟨some 15, .call 218 [(.t 12), (.t 13), (.t 14)], none⟩,
  ⟨some 11, .mv (.t 15), none⟩,
  ⟨some 16, .extract (.t 11) 0, none⟩,
  ⟨some 17, .extract (.t 11) 1, none⟩,
  ⟨some 18, .extract (.t 11) 2, none⟩,
  ⟨some 8, .mv (.t 16), none⟩,
  ⟨some 9, .mv (.t 17), none⟩,
  ⟨some 10, .mv (.t 18), none⟩]
@[simp] def f332r2 : List ROper := [
  ⟨some 19, .mv (.t 8), none⟩,
  ⟨some 20, .mv (.t 10), none⟩,
  ⟨some 6, .mv (.t 19), none⟩,
  ⟨some 7, .mv (.t 20), none⟩]
def f332 : RFunc := ⟨[.t 6, .t 7], (.seq (.region f332r0 [0, 1, 5]) (.seq (.region f332r1 [8, 10]) (.seq (.region f332r2 [6, 7]) .ret))), true⟩

/-! quire/para.parts$1 -/
@[simp] def f343r0 : List ROper := [
  ⟨some 3, .mv (.c (.int .i64 (.ofNat 0))), none⟩]
@[simp] def f343r1 : List ROper := [
  ⟨some 4, .faddr 2 (.t 1), none⟩,
  ⟨some 5, .faddr 4 (.t 4), none⟩,
  ⟨some 6, .load 1 false (.t 5), none⟩,
  ⟨some 3, .mv (.t 6), none⟩]
def f343 : RFunc := ⟨[.t 3], (.seq (.region f343r0 [1]) (.seq (.region f343r1 [3]) .ret)), false⟩

/-! quire/para.parts$2 -/
@[simp] def f344r0 : List ROper := [
  ⟨some 3, .mv (.c (.int .i64 (.ofNat 0))), none⟩]
@[simp] def f344r1 : List ROper := [
  ⟨some 4, .mv (.t 0), none⟩,
  ⟨some 5, .bin .gtr (.t 4) (.c (.int .i64 (.ofNat 0))), none⟩]
@[simp] def f344r2 : List ROper := [
  ⟨some 3, .mv (.c (.int .i64 (.ofNat 0))), none⟩]
@[simp] def f344r3 : List ROper := [
  ⟨some 6, .faddr 2 (.t 1), none⟩,
  ⟨some 7, .faddr 3 (.t 6), none⟩,
  ⟨some 8, .load 1 false (.t 7), none⟩,
  ⟨some 9, .load 21 true (.t 1), none⟩,
  ⟨some 10, .call 345 [(.t 9)], none⟩,
  ⟨some 11, .bin .add (.t 8) (.t 10), none⟩,
  ⟨some 3, .mv (.t 11), none⟩]
def f344 : RFunc := ⟨[.t 3], (.seq (.region f344r0 [0, 1]) (.seq (.seq (.region f344r1 [1, 5]) (.cond (.t 5) (.seq (.region f344r2 [3]) .ret) .skip)) (.seq (.dregion f344r3 [] [] [3]) .ret))), false⟩

/-! quire/para.label -/
@[simp] def f345r0 : List ROper := [
  ⟨some 1, .box 21 (.t 0), none⟩,
  ⟨some 2, .mv (.c (.int .i64 (.ofNat 0))), none⟩]
@[simp] def f345r1 : List ROper := [
  ⟨some 5, .faddr 19 (.t 1), none⟩,
  ⟨some 6, .load 1 false (.t 5), none⟩,
  ⟨some 7, .bin .eql (.t 6) (.c (.str [])), none⟩]
@[simp] def f345r2 : List ROper := [
  ⟨some 2, .mv (.c (.int .i64 (.ofNat 0))), none⟩]
@[simp] def f345r3 : List ROper := [
  ⟨some 9, .faddr 19 (.t 1), none⟩,
  ⟨some 10, .load 1 false (.t 9), none⟩,
  ⟨some 11, .faddr 2 (.t 1), none⟩,
  ⟨some 12, .faddr 0 (.t 11), none⟩,
  ⟨some 13, .load 1 false (.t 12), none⟩,
  ⟨some 14, .call 17 [(.t 10), (.t 13)], none⟩,
  ⟨some 8, .mv (.t 14), none⟩,
  ⟨some 15, .extract (.t 8) 0, none⟩,
  ⟨some 16, .extract (.t 8) 1, none⟩,
  ⟨some 3, .mv (.t 15), none⟩,
  ⟨some 4, .mv (.t 16), none⟩]
@[simp] def f345r4 : List ROper := [
  ⟨some 17, .mv (.t 3), none⟩,
  ⟨some 18, .bin .add (.t 17) (.c (.int .i64 (.ofNat 4))), none⟩,
  ⟨some 2, .mv (.t 18), none⟩]
def f345 : RFunc := ⟨[.t 2], (.seq (.region f345r0 [1]) (.seq (.seq (.region f345r1 [1, 7]) (.cond (.t 7) (.seq (.region f345r2 [2]) .ret) .skip)) (.seq (.region f345r3 [3]) (.seq (.region f345r4 [2]) .ret)))), true⟩

/-! quire/para.parts$3 -/
@[simp] def f346r0 : List ROper := [
  ⟨some 4, .mv (.c (.int .i64 (.ofNat 0))), none⟩]
@[simp] def f346r1 : List ROper := [
  ⟨some 5, .mv (.t 0), none⟩,
  ⟨some 6, .faddr 2 (.t 1), none⟩,
  ⟨some 7, .faddr 14 (.t 6), none⟩,
  ⟨some 8, .load 1 false (.t 7), none⟩,
  ⟨some 9, .bin .geq (.t 5) (.t 8), none⟩]
@[simp] def f346r2 : List ROper := [
  ⟨some 4, .mv (.c (.int .i64 (.ofNat 0))), none⟩]
@[simp] def f346r3 : List ROper := [
  ⟨some 10, .load 1 false (.t 2), none⟩,
  ⟨some 4, .mv (.t 10), none⟩]
def f346 : RFunc := ⟨[.t 4], (.seq (.region f346r0 [0, 1, 2]) (.seq (.seq (.region f346r1 [2, 9]) (.cond (.t 9) (.seq (.region f346r2 [4]) .ret) .skip)) (.seq (.region f346r3 [4]) .ret))), false⟩

/-! quire/quirelaw18.NoteSplits -/
@[simp] def f357r0 : List ROper := [
  ⟨some 4, .mv (.c (.bool false)), none⟩]
@[simp] def f357r1 : List ROper := [
  ⟨some 12, .mv (.t 0), none⟩,
  ⟨some 13, .len .slice (.t 12), none⟩,
  ⟨some 14, .bin .gtr (.t 13) (.c (.int .i64 (.ofNat 1000))), none⟩]
@[simp] def f357r2 : List ROper := [
  ⟨some 4, .mv (.c (.bool true)), none⟩]
@[simp] def f357r3 : List ROper := [
  ⟨some 15, .lit 7 true [(.int .i64 (.ofNat 0)), (.int .i64 (.ofNat 0)), (.int .i64 (.ofNat 0)), (.int .i64 (.ofNat 0)), (.int .i64 (.ofNat 0)), (.bool false), (.int .i64 (.ofNat 0))] 0 [], none⟩,
  ⟨some 16, .mv (.t 0), none⟩,
  ⟨some 17, .append 7 true 56 (.t 15) (.t 16), none⟩,
  ⟨some 5, .mv (.t 17), none⟩]
@[simp] def f357r4 : List ROper := [
  ⟨some 19, .mv (.t 5), none⟩,
  ⟨some 20, .mv (.t 1), none⟩,
  ⟨some 21, .call 361 [(.t 19), (.t 20)], none⟩,
  ⟨some 18, .mv (.t 21), none⟩,
  ⟨some 22, .extract (.t 18) 0, none⟩,
  ⟨some 23, .extract (.t 18) 1, none⟩,
  ⟨some 24, .extract (.t 18) 2, none⟩,
  ⟨some 6, .mv (.t 22), none⟩,
  ⟨some 7, .mv (.t 23), none⟩,
  ⟨some 8, .mv (.t 24), none⟩]
@[simp] def f357r5 : List ROper := [
  ⟨some 26, .mv (.t 0), none⟩,
  ⟨some 27, .mv (.t 1), none⟩,
  ⟨some 28, .call 362 [(.t 26), (.t 27)], none⟩,
  ⟨some 25, .mv (.t 28), none⟩,
  ⟨some 29, .extract (.t 25) 0, none⟩,
  ⟨some 30, .extract (.t 25) 1, none⟩,
  ⟨some 31, .extract (.t 25) 2, none⟩,
  ⟨some 9, .mv (.t 29), none⟩,
  ⟨some 10, .mv (.t 30), none⟩,
  ⟨some 11, .mv (.t 31), none⟩]
@[simp] def f357r6 : List ROper := [
  ⟨some 32, .mv (.t 6), none⟩,
  ⟨some 33, .mv (.t 9), none⟩,
  ⟨some 34, .call 309 [(.t 32), (.t 33)], none⟩,
  ⟨some 35, .un .not (.t 34), none⟩,
  ⟨some 36, .mv (.t 35), none⟩,
  ⟨some 37, .mv (.t 7), some (36, false)⟩,
  ⟨some 38, .mv (.t 10), some (36, false)⟩,
  ⟨some 39, .call 309 [(.t 37), (.t 38)], some (36, false)⟩,
  ⟨some 40, .un .not (.t 39), some (36, false)⟩,
  ⟨some 41, .pick (.t 36) (.c (.bool true)) (.t 40), none⟩,
  ⟨some 42, .mv (.t 41), none⟩,
  ⟨some 43, .mv (.t 8), some (42, false)⟩,
  ⟨some 44, .mv (.t 11), some (42, false)⟩,
  ⟨some 45, .bin .neq (.t 43) (.t 44), some (42, false)⟩,
  ⟨some 46, .pick (.t 42) (.c (.bool true)) (.t 45), none⟩,
  ⟨some 47, .mv (.t 46), none⟩,
  ⟨some 48, .mv (.t 5), some (47, false)⟩,
  ⟨some 49, .call 363 [(.t 48)], some (47, false)⟩,
  ⟨some 50, .mv (.t 0), some (47, false)⟩,
  ⟨some 51, .call 364 [(.t 50)], some (47, false)⟩,
  ⟨some 52, .bin .neq (.t 49) (.t 51), some (47, false)⟩,
  ⟨some 53, .pick (.t 47) (.c (.bool true)) (.t 52), none⟩]
@[simp] def f357r7 : List ROper := [
  ⟨some 4, .mv (.c (.bool false)), none⟩]
@[simp] def f357r8 : List ROper := [
  ⟨some 54, .mv (.t 6), none⟩,
  ⟨some 55, .call 317 [(.t 54)], none⟩]
@[simp] def f357r9 : List ROper := [
  ⟨some 56, .mv (.t 7), none⟩,
  ⟨some 57, .mv (.t 10), none⟩,
  ⟨some 58, .call 309 [(.t 56), (.t 57)], none⟩,
  ⟨some 59, .un .not (.t 58), none⟩]
@[simp] def f357r10 : List ROper := [
  ⟨some 4, .mv (.c (.bool false)), none⟩]
@[simp] def f357r11 : List ROper := [
  ⟨some 60, .mv (.t 7), none⟩,
  ⟨some 61, .call 317 [(.t 60)], none⟩]
@[simp] def f357r12 : List ROper := [
  ⟨some 62, .mv (.t 5), none⟩,
  ⟨some 63, .mv (.t 0), none⟩,
  ⟨some 64, .call 309 [(.t 62), (.t 63)], none⟩,
  ⟨some 65, .mv (.t 64), none⟩,
  ⟨some 66, .call 365 [], some (65, true)⟩,
  ⟨some 67, .pick (.t 65) (.t 66) (.c (.bool false)), none⟩,
  ⟨some 4, .mv (.t 67), none⟩]
def f357 : RFunc := ⟨[.t 4], (.seq (.region f357r0 [0, 1]) (.seq (.seq (.region f357r1 [0, 1, 14]) (.cond (.t 14) (.seq (.region f357r2 [4]) .ret) .skip)) (.seq (.region f357r3 [0, 1, 5]) (.seq (.region f357r4 [0, 1, 5, 6, 7, 8]) (.seq (.region f357r5 [0, 5, 6, 7, 8, 9, 10, 11]) (.seq (.seq (.region f357r6 [0, 5, 6, 7, 10, 53]) (.cond (.t 53) (.seq (.region f357r7 [4]) .ret) .skip)) (.seq (.region f357r8 [0, 5, 7, 10]) (.seq (.seq (.region f357r9 [0, 5, 7, 59]) (.cond (.t 59) (.seq (.region f357r10 [4]) .ret) .skip)) (.seq (.region f357r11 [0, 5]) (.seq (.region f357r12 [4]) .ret)))))))))), true⟩

/-! quire/note.Split -/
@[simp] def f361r0 : List ROper := [
  ⟨some 4, .mv (.c (.list 0 0 .no false [])), none⟩,
  ⟨some 5, .mv (.c (.list 0 0 .no false [])), none⟩,
  ⟨some 6, .mv (.c (.int .i64 (.ofNat 0))), none⟩]
@[simp] def f361r1 : List ROper := [
  ⟨some 9, .mv (.t 1), none⟩,
  ⟨some 10, .bin .lss (.t 9) (.c (.int .i64 (.ofNat 0))), none⟩]
@[simp] def f361r2 : List ROper := [
  ⟨some 4, .mv (.c (.list 0 0 .no false [])), none⟩,
  ⟨some 5, .mv (.c (.list 0 0 .no false [])), none⟩,
  ⟨some 6, .mv (.c (.int .i64 (.ofNat 5))), none⟩]
@[simp] def f361r3 : List ROper := [
  ⟨some 11, .mv (.t 1), none⟩,
  ⟨some 12, .bin .quo (.t 11) (.c (.int .i64 (.ofNat 10))), none⟩,
  ⟨some 13, .mv (.t 0), none⟩,
  ⟨some 14, .len .slice (.t 13), none⟩,
  ⟨some 15, .min [(.t 12), (.t 14)], none⟩,
  ⟨some 7, .mv (.t 15), none⟩]
@[simp] def f361r4 : List ROper := [
  ⟨some 16, .mv (.t 0), none⟩,
  ⟨some 17, .appendH 7 true 56 (.c (.list 0 0 .no false [])) (.t 16), none⟩,
  ⟨some 8, .mv (.t 17), none⟩]
@[simp] def f361r5 : List ROper := [
  ⟨some 18, .mv (.t 8), none⟩,
  ⟨some 19, .mv (.t 7), none⟩,
  ⟨some 20, .mv (.t 7), none⟩,
  ⟨some 21, .slice false 7 (.t 18) none (some (.t 19)) (some (.t 20)), none⟩,
  ⟨some 22, .mv (.t 8), none⟩,
  ⟨some 23, .mv (.t 7), none⟩,
  ⟨some 24, .mv (.t 8), none⟩,
  ⟨some 25, .len .slice (.t 24), none⟩,
  ⟨some 26, .mv (.t 8), none⟩,
  ⟨some 27, .len .slice (.t 26), none⟩,
  ⟨some 28, .slice false 7 (.t 22) (some (.t 23)) (some (.t 25)) (some (.t 27)), none⟩,
  ⟨some 4, .mv (.t 21), none⟩,
  ⟨some 5, .mv (.t 28), none⟩,
  ⟨some 6, .mv (.c (.int .i64 (.ofNat 0))), none⟩]
def f361 : RFunc := ⟨[.t 4, .t 5, .t 6], (.seq (.region f361r0 [0, 1]) (.seq (.seq (.region f361r1 [0, 1, 10]) (.cond (.t 10) (.seq (.region f361r2 [4, 5, 6]) .ret) .skip)) (.seq (.region f361r3 [0, 7]) (.seq (.region f361r4 [7, 8]) (.seq (.dregion f361r5 [] [] [4, 5, 6]) .ret))))), false⟩

/-! quire/quireref18.Split -/
@[simp] def f362r0 : List ROper := [
  ⟨some 4, .mv (.c (.list 0 0 .no false [])), none⟩,
  ⟨some 5, .mv (.c (.list 0 0 .no false [])), none⟩,
  ⟨some 6, .mv (.c (.int .i64 (.ofNat 0))), none⟩]
@[simp] def f362r1 : List ROper := [
  ⟨some 8, .mv (.t 1), none⟩,
  ⟨some 9, .bin .lss (.t 8) (.c (.int .i64 (.ofNat 0))), none⟩]
@[simp] def f362r2 : List ROper := [
  ⟨some 4, .mv (.c (.list 0 0 .no false [])), none⟩,
  ⟨some 5, .mv (.c (.list 0 0 .no false [])), none⟩,
  ⟨some 6, .mv (.c (.int .i64 (.ofNat 5))), none⟩]
@[simp] def f362r3 : List ROper := [
  ⟨some 10, .mv (.t 1), none⟩,
  ⟨some 11, .bin .quo (.t 10) (.c (.int .i64 (.ofNat 10))), none⟩,
  ⟨some 12, .mv (.t 0), none⟩,
  ⟨some 13, .len .slice (.t 12), none⟩,
  ⟨some 14, .min [(.t 11), (.t 13)], none⟩,
  ⟨some 7, .mv (.t 14), none⟩]
@[simp] def f362r4 : List ROper := [
  ⟨some 15, .lit 7 true [(.int .i64 (.ofNat 0)), (.int .i64 (.ofNat 0)), (.int .i64 (.ofNat 0)), (.int .i64 (.ofNat 0)), (.int .i64 (.ofNat 0)), (.bool false), (.int .i64 (.ofNat 0))] 0 [], none⟩,
  ⟨some 16, .mv (.t 0), none⟩,
  ⟨some 17, .mv (.t 7), none⟩,
  ⟨some 18, .slice false 7 (.t 16) none (some (.t 17)) none, none⟩,
  ⟨some 19, .append 7 true 56 (.t 15) (.t 18), none⟩,
  ⟨some 20, .lit 7 true [(.int .i64 (.ofNat 0)), (.int .i64 (.ofNat 0)), (.int .i64 (.ofNat 0)), (.int .i64 (.ofNat 0)), (.int .i64 (.ofNat 0)), (.bool false), (.int .i64 (.ofNat 0))] 0 [], none⟩,
  ⟨some 21, .mv (.t 0), none⟩,
  ⟨some 22, .mv (.t 7), none⟩,
  ⟨some 23, .slice false 7 (.t 21) (some (.t 22)) none none, none⟩,
  ⟨some 24, .append 7 true 56 (.t 20) (.t 23), none⟩,
  ⟨some 4, .mv (.t 19), none⟩,
  ⟨some 5, .mv (.t 24), none⟩,
  ⟨some 6, .mv (.c (.int .i64 (.ofNat 0))), none⟩]
def f362 : RFunc := ⟨[.t 4, .t 5, .t 6], (.seq (.region f362r0 [0, 1]) (.seq (.seq (.region f362r1 [0, 1, 9]) (.cond (.t 9) (.seq (.region f362r2 [4, 5, 6]) .ret) .skip)) (.seq (.region f362r3 [0, 7]) (.seq (.dregion f362r4 [] [(5, [0])] [4, 5, 6]) .ret)))), true⟩

/-! quire/note.Height -/
@[simp] def f363r0 : List ROper := [
  ⟨some 2, .mv (.c (.int .i64 (.ofNat 0))), none⟩]
@[simp] def f363r1 : List ROper := [
  ⟨some 3, .mv (.t 0), none⟩,
  ⟨some 4, .len .slice (.t 3), none⟩,
  ⟨some 5, .bin .mul (.c (.int .i64 (.ofNat 10))) (.t 4), none⟩,
  ⟨some 2, .mv (.t 5), none⟩]
def f363 : RFunc := ⟨[.t 2], (.seq (.region f363r0 [0]) (.seq (.region f363r1 [2]) .ret)), true⟩

/-! quire/quireref18.Height -/
@[simp] def f364r0 : List ROper := [
  ⟨some 2, .mv (.c (.int .i64 (.ofNat 0))), none⟩]
@[simp] def f364r1 : List ROper := [
  ⟨some 3, .mv (.t 0), none⟩,
  ⟨some 4, .len .slice (.t 3), none⟩,
  ⟨some 5, .bin .mul (.c (.int .i64 (.ofNat 10))) (.t 4), none⟩,
  ⟨some 2, .mv (.t 5), none⟩]
def f364 : RFunc := ⟨[.t 2], (.seq (.region f364r0 [0]) (.seq (.region f364r1 [2]) .ret)), true⟩

/-! quire/quirelaw18.awake -/
@[simp] def f365r0 : List ROper := [
  ⟨some 0, .mv (.c (.bool false)), none⟩]
@[simp] def f365r1 : List ROper := [
  ⟨some 4, .call 367 [(.c (.str [97, 98, 32, 99, 100])), (.c (.int .i64 (.ofNat 27)))], none⟩,
  ⟨some 3, .mv (.t 4), none⟩,
  ⟨some 5, .extract (.t 3) 0, none⟩,
  ⟨some 6, .extract (.t 3) 1, none⟩,
  ⟨some 1, .mv (.t 5), none⟩,
  ⟨some 2, .mv (.t 6), none⟩]
@[simp] def f365r2 : List ROper := [
  ⟨some 7, .mv (.t 2), none⟩,
  ⟨some 8, .bin .eql (.t 7) (.c (.int .i64 (.ofNat 0))), none⟩,
  ⟨some 9, .mv (.t 8), none⟩,
  ⟨some 10, .mv (.t 1), some (9, true)⟩,
  ⟨some 11, .build [(.int .i64 (.ofNat 0)), (.int .i64 (.ofNat 0)), (.int .i64 (.ofNat 0)), (.int .i64 (.ofNat 0)), (.int .i64 (.ofNat 0)), (.bool false), (.int .i64 (.ofNat 0))] [(1, 1, (.c (.int .i64 (.ofNat 3)))), (2, 1, (.c (.int .i64 (.ofNat 14)))), (3, 1, (.c (.int .i64 (.ofNat 13)))), (4, 1, (.c (.int .i64 (.ofNat 10))))], some (9, true)⟩,
  ⟨some 12, .build [(.int .i64 (.ofNat 0)), (.int .i64 (.ofNat 0)), (.int .i64 (.ofNat 0)), (.int .i64 (.ofNat 0)), (.int .i64 (.ofNat 0)), (.bool false), (.int .i64 (.ofNat 0))] [(0, 1, (.c (.int .i64 (.ofNat 3)))), (1, 1, (.c (.int .i64 (.ofNat 5)))), (2, 1, (.c (.int .i64 (.ofNat 14)))), (3, 1, (.c (.int .i64 (.ofNat 13)))), (4, 1, (.c (.int .i64 (.ofNat 10))))], some (9, true)⟩,
  ⟨some 13, .lit 7 true [(.int .i64 (.ofNat 0)), (.int .i64 (.ofNat 0)), (.int .i64 (.ofNat 0)), (.int .i64 (.ofNat 0)), (.int .i64 (.ofNat 0)), (.bool false), (.int .i64 (.ofNat 0))] 2 [(0, (.t 11)), (1, (.t 12))], some (9, true)⟩,
  ⟨some 14, .call 309 [(.t 10), (.t 13)], some (9, true)⟩,
  ⟨some 15, .pick (.t 9) (.t 14) (.c (.bool false)), none⟩,
  ⟨some 0, .mv (.t 15), none⟩]
def f365 : RFunc := ⟨[.t 0], (.seq (.region f365r0 []) (.seq (.region f365r1 [1, 2]) (.seq (.region f365r2 [0]) .ret))), true⟩

/-! quire/note.Lay -/
@[simp] def f367r0 : List ROper := [
  ⟨some 4, .mv (.c (.list 0 0 .no false [])), none⟩,
  ⟨some 5, .mv (.c (.int .i64 (.ofNat 0))), none⟩]
@[simp] def f367r1 : List ROper := [
  ⟨some 10, .mv (.t 0), none⟩,
  ⟨some 11, .len .str (.t 10), none⟩,
  ⟨some 12, .bin .gtr (.t 11) (.c (.int .i64 (.ofNat 4096))), none⟩]
@[simp] def f367r2 : List ROper := [
  ⟨some 4, .mv (.c (.list 0 0 .no false [])), none⟩,
  ⟨some 5, .mv (.c (.int .i64 (.ofNat 3))), none⟩]
@[simp] def f367r3 : List ROper := [
  ⟨some 13, .mv (.t 0), none⟩,
  ⟨some 14, .s2b (.t 13), none⟩,
  ⟨some 15, .len .slice (.t 14), none⟩,
  ⟨some 16, .mv (.c (.int .i64 (.ofNat 0))), none⟩]
@[simp] def f367r4 : List ROper := [
  ⟨some 17, .bin .lss (.t 16) (.t 15), none⟩]
@[simp] def f367r5 : List ROper := [
  ⟨some 18, .iaddr 1 (.t 14) (.t 16), none⟩,
  ⟨some 19, .load 1 false (.t 18), none⟩,
  ⟨some 7, .mv (.t 19), none⟩]
@[simp] def f367r6 : List ROper := [
  ⟨some 20, .mv (.t 7), none⟩,
  ⟨some 21, .bin .lss (.t 20) (.c (.int .u8 (.ofNat 32))), none⟩,
  ⟨some 22, .mv (.t 21), none⟩,
  ⟨some 23, .mv (.t 7), some (22, false)⟩,
  ⟨some 24, .bin .gtr (.t 23) (.c (.int .u8 (.ofNat 126))), some (22, false)⟩,
  ⟨some 25, .pick (.t 22) (.c (.bool true)) (.t 24), none⟩]
@[simp] def f367r7 : List ROper := [
  ⟨some 4, .mv (.c (.list 0 0 .no false [])), none⟩,
  ⟨some 5, .mv (.c (.int .i64 (.ofNat 4))), none⟩]
@[simp] def f367r8 : List ROper := [
  ⟨some 26, .bin .add (.t 16) (.c (.int .i64 (.ofNat 1))), none⟩,
  ⟨some 16, .mv (.t 26), none⟩]
def f367B0 : RC := (.seq (.region f367r4 [0, 1, 14, 15, 16, 17]) (.seq (.cond (.t 17) .skip (.exit 0)) (.seq (.block 1 (.seq (.region f367r5 [0, 1, 7, 14, 15, 16]) (.seq (.region f367r6 [0, 1, 14, 15, 16, 25]) (.cond (.t 25) (.seq (.region f367r7 [4, 5]) .ret) .skip)))) (.region f367r8 [0, 1, 14, 15, 16]))))
def f367L0 : RC := .loop [0, 1, 14, 15, 16] f367B0
@[simp] def f367r9 : List ROper := [
  ⟨some 27, .mv (.t 1), none⟩,
  ⟨some 28, .bin .lss (.t 27) (.c (.int .i64 (.ofNat 0))), none⟩,
  ⟨some 29, .mv (.t 28), none⟩,
  ⟨some 30, .mv (.t 1), some (29, false)⟩,
  ⟨some 31, .bin .gtr (.t 30) (.c (.int .i64 (.ofNat 4095))), some (29, false)⟩,
  ⟨some 32, .pick (.t 29) (.c (.bool true)) (.t 31), none⟩]
@[simp] def f367r10 : List ROper := [
  ⟨some 4, .mv (.c (.list 0 0 .no false [])), none⟩,
  ⟨some 5, .mv (.c (.int .i64 (.ofNat 5))), none⟩]
@[simp] def f367r11 : List ROper := [
  ⟨some 34, .mv (.t 0), none⟩,
  ⟨some 35, .call 371 [(.t 34)], none⟩,
  ⟨some 36, .mv (.t 1), none⟩,
  ⟨some 37, .build [(.int .i64 (.ofNat 0)), (.int .i64 (.ofNat 0))] [(1, 1, (.t 36))], none⟩,
  ⟨some 38, .call 307 [(.t 35), (.c (.list 0 0 .no false [])), (.t 37)], none⟩,
  ⟨some 33, .mv (.t 38), none⟩,
  ⟨some 39, .extract (.t 33) 0, none⟩,
  ⟨some 40, .extract (.t 33) 1, none⟩,
  ⟨some 8, .mv (.t 39), none⟩,
  ⟨some 9, .mv (.t 40), none⟩]
@[simp] def f367r12 : List ROper := [
  ⟨some 41, .mv (.t 8), none⟩,
  ⟨some 4, .mv (.t 41), none⟩,
  ⟨some 5, .mv (.c (.int .i64 (.ofNat 0))), none⟩]
def f367 : RFunc := ⟨[.t 4, .t 5], (.seq (.region f367r0 [0, 1]) (.seq (.seq (.region f367r1 [0, 1, 12]) (.cond (.t 12) (.seq (.region f367r2 [4, 5]) .ret) .skip)) (.seq (.seq (.region f367r3 [0, 1, 14, 15, 16]) (.block 0 f367L0)) (.seq (.seq (.region f367r9 [0, 1, 32]) (.cond (.t 32) (.seq (.region f367r10 [4, 5]) .ret) .skip)) (.seq (.region f367r11 [8]) (.seq (.region f367r12 [4, 5]) .ret)))))), true⟩

/-! quire/note.Para -/
@[simp] def f371r0 : List ROper := [
  ⟨some 2, .alloc [(.str []), (.list 0 0 .no false []), (.int .i64 (.ofNat 0)), (.int .i64 (.ofNat 0)), (.int .i64 (.ofNat 0)), (.int .i64 (.ofNat 0)), (.int .i64 (.ofNat 0)), (.int .i64 (.ofNat 0)), (.int .i64 (.ofNat 0)), (.int .i64 (.ofNat 0)), (.int .i64 (.ofNat 0)), (.int .i64 (.ofNat 0)), (.int .i64 (.ofNat 0)), (.int .i64 (.ofNat 0)), (.int .i64 (.ofNat 0)), (.int .i64 (.ofNat 0)), (.int .i64 (.ofNat 0)), (.int .i64 (.ofNat 0)), (.int .i64 (.ofNat 0)), (.str []), (.list 0 0 .no false [])], none⟩]
@[simp] def f371r1 : List ROper := [
  ⟨some 4, .mv (.t 0), none⟩,
  ⟨some 5, .call 376 [], none⟩,
  ⟨some 6, .build [(.str []), (.list 0 0 .no false []), (.int .i64 (.ofNat 0)), (.int .i64 (.ofNat 0)), (.int .i64 (.ofNat 0)), (.int .i64 (.ofNat 0)), (.int .i64 (.ofNat 0)), (.int .i64 (.ofNat 0)), (.int .i64 (.ofNat 0)), (.int .i64 (.ofNat 0)), (.int .i64 (.ofNat 0)), (.int .i64 (.ofNat 0)), (.int .i64 (.ofNat 0)), (.int .i64 (.ofNat 0)), (.int .i64 (.ofNat 0)), (.int .i64 (.ofNat 0)), (.int .i64 (.ofNat 0)), (.int .i64 (.ofNat 0)), (.int .i64 (.ofNat 0)), (.str []), (.list 0 0 .no false [])] [(0, 1, (.t 4)), (2, 17, (.t 5))], none⟩,
  ⟨some 3, .alloc [(.str []), (.list 0 0 .no false []), (.int .i64 (.ofNat 0)), (.int .i64 (.ofNat 0)), (.int .i64 (.ofNat 0)), (.int .i64 (.ofNat 0)), (.int .i64 (.ofNat 0)), (.int .i64 (.ofNat 0)), (.int .i64 (.ofNat 0)), (.int .i64 (.ofNat 0)), (.int .i64 (.ofNat 0)), (.int .i64 (.ofNat 0)), (.int .i64 (.ofNat 0)), (.int .i64 (.ofNat 0)), (.int .i64 (.ofNat 0)), (.int .i64 (.ofNat 0)), (.int .i64 (.ofNat 0)), (.int .i64 (.ofNat 0)), (.int .i64 (.ofNat 0)), (.str []), (.list 0 0 .no false [])], none⟩,
  ⟨none, .store 21 (.t 3) (.t 6), none⟩]
@[simp] def f371r2 : List ROper := [
  ⟨some 7, .mv (.t 0), none⟩,
  ⟨some 8, .bin .neq (.t 7) (.c (.str [])), none⟩]
@[simp] def f371r3 : List ROper := [
  ⟨some 9, .mv (.t 0), none⟩,
  ⟨some 10, .len .str (.t 9), none⟩,
  ⟨some 11, .build [(.int .i64 (.ofNat 0)), (.int .i64 (.ofNat 0)), (.int .i64 (.ofNat 0)), (.int .i64 (.ofNat 0))] [(0, 1, (.t 10))], none⟩,
  ⟨some 12, .lit 4 true [(.int .i64 (.ofNat 0)), (.int .i64 (.ofNat 0)), (.int .i64 (.ofNat 0)), (.int .i64 (.ofNat 0))] 1 [(0, (.t 11))], none⟩,
  ⟨some 13, .faddr 1 (.t 3), none⟩,
  ⟨none, .store 1 (.t 13) (.t 12), none⟩]
@[simp] def f371r4 : List ROper := [
  ⟨some 14, .load 21 true (.t 3), none⟩,
  ⟨none, .store 21 (.t 2) (.t 14), none⟩]
def f371 : RFunc := ⟨[.cell 2 21 true], (.seq (.region f371r0 [0, 2]) (.seq (.region f371r1 [0, 2, 3]) (.seq (.seq (.region f371r2 [0, 2, 3, 8]) (.cond (.t 8) (.region f371r3 [2, 3]) .skip)) (.seq (.region f371r4 [2]) .ret)))), true⟩

end Go.D.Tab
