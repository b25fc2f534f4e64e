/-
The code of what the laws reach, as a table of the small language. Printed by wip/gen.
-/
import Derived.Test.YtkddchgeiiahdaaGreatDoorFwDPrim
namespace Go.D.Tab

/-! quire/metric.Masses -/
@[simp] def f10r0 : List ROper := [
  ⟨some 1, .box 21 (.t 0), none⟩,
  ⟨some 2, .mv (.c (.list 0 0 .no false [])), none⟩,
  ⟨some 3, .mv (.c (.int .i64 (.ofNat 0))), none⟩]
@[simp] def f10r1 : List ROper := [
  ⟨some 18, .load 21 true (.t 1), none⟩,
  ⟨some 19, .call 13 [(.t 18)], none⟩,
  ⟨some 4, .mv (.t 19), none⟩]
@[simp] def f10r2 : List ROper := [
  ⟨some 20, .mv (.t 4), none⟩,
  ⟨some 21, .bin .neq (.t 20) (.c (.int .i64 (.ofNat 0))), none⟩]
@[simp] def f10r3 : List ROper := [
  ⟨some 22, .mv (.t 4), none⟩,
  ⟨some 2, .mv (.c (.list 0 0 .no false [])), none⟩,
  ⟨some 3, .mv (.t 22), none⟩]
@[simp] def f10r4 : List ROper := [
  ⟨some 24, .faddr 0 (.t 1), none⟩,
  ⟨some 25, .load 1 false (.t 24), none⟩,
  ⟨some 26, .call 27 [(.t 25)], none⟩,
  ⟨some 23, .mv (.t 26), none⟩,
  ⟨some 27, .extract (.t 23) 0, none⟩,
  ⟨some 28, .extract (.t 23) 1, none⟩,
  ⟨some 5, .mv (.t 27), none⟩,
  ⟨some 6, .mv (.t 28), none⟩]
@[simp] def f10r5 : List ROper := [
  ⟨some 29, .faddr 1 (.t 1), none⟩,
  ⟨some 30, .load 1 false (.t 29), none⟩,
  ⟨some 31, .call 29 [(.t 30)], none⟩,
  ⟨some 7, .mv (.t 31), none⟩]
@[simp] def f10r6 : List ROper := [
  ⟨some 32, .faddr 20 (.t 1), none⟩,
  ⟨some 33, .load 1 false (.t 32), none⟩,
  ⟨some 8, .mv (.t 33), none⟩]
@[simp] def f10r7 : List ROper := [
  ⟨some 9, .mv (.c (.list 0 0 .no false [])), none⟩]
@[simp] def f10r8 : List ROper := [
  ⟨some 10, .mv (.c (.bool false)), none⟩,
  ⟨some 11, .mv (.c (.int .u8 (.ofNat 0))), none⟩]
@[simp] def f10r9 : List ROper := [
  ⟨some 34, .mv (.t 5), none⟩,
  ⟨some 35, .len .slice (.t 34), none⟩,
  ⟨some 36, .mv (.c (.int .i64 (.ofNat 0))), none⟩]
@[simp] def f10r10 : List ROper := [
  ⟨some 37, .bin .lss (.t 36) (.t 35), none⟩]
@[simp] def f10r11 : List ROper := [
  ⟨some 38, .iaddr 3 (.t 34) (.t 36), none⟩,
  ⟨some 39, .load 3 true (.t 38), none⟩,
  ⟨some 13, .alloc [(.int .i64 (.ofNat 0)), (.int .i64 (.ofNat 0)), (.int .i64 (.ofNat 0))], none⟩,
  ⟨none, .store 3 (.t 13) (.t 39), none⟩]
@[simp] def f10r12 : List ROper := [
  ⟨some 40, .mv (.t 7), none⟩,
  ⟨some 41, .faddr 0 (.t 13), none⟩,
  ⟨some 42, .load 1 false (.t 41), none⟩,
  ⟨some 43, .callv (.t 40) [(.t 42)], none⟩,
  ⟨some 14, .alloc [(.int .i64 (.ofNat 0)), (.int .i64 (.ofNat 0)), (.int .i64 (.ofNat 0))], none⟩,
  ⟨none, .store 3 (.t 14) (.t 43), none⟩]
@[simp] def f10r13 : List ROper := [
  ⟨some 44, .faddr 0 (.t 13), none⟩,
  ⟨some 45, .load 1 false (.t 44), none⟩,
  ⟨some 46, .faddr 1 (.t 13), none⟩,
  ⟨some 47, .load 1 false (.t 46), none⟩,
  ⟨some 48, .faddr 2 (.t 13), none⟩,
  ⟨some 49, .load 1 false (.t 48), none⟩,
  ⟨some 50, .faddr 0 (.t 14), none⟩,
  ⟨some 51, .load 1 false (.t 50), none⟩,
  ⟨some 52, .build [(.int .i64 (.ofNat 0)), (.int .i64 (.ofNat 0)), (.int .i64 (.ofNat 0)), (.int .i64 (.ofNat 0)), (.int .i64 (.ofNat 0)), (.int .i64 (.ofNat 0))] [(0, 1, (.t 45)), (1, 1, (.t 47)), (2, 1, (.t 49)), (3, 1, (.t 51))], none⟩,
  ⟨some 15, .alloc [(.int .i64 (.ofNat 0)), (.int .i64 (.ofNat 0)), (.int .i64 (.ofNat 0)), (.int .i64 (.ofNat 0)), (.int .i64 (.ofNat 0)), (.int .i64 (.ofNat 0))], none⟩,
  ⟨none, .store 6 (.t 15) (.t 52), none⟩]
@[simp] def f10r14 : List ROper := [
  ⟨some 53, .faddr 3 (.t 15), none⟩,
  ⟨some 54, .load 1 false (.t 53), none⟩,
  ⟨some 55, .bin .eql (.t 54) (.c (.int .i64 (.ofNat 0))), none⟩]
@[simp] def f10r15 : List ROper := [
  ⟨some 56, .faddr 2 (.t 1), none⟩,
  ⟨some 57, .faddr 0 (.t 56), none⟩,
  ⟨some 58, .load 1 false (.t 57), none⟩,
  ⟨some 59, .faddr 3 (.t 15), none⟩,
  ⟨none, .store 1 (.t 59) (.t 58), none⟩]
@[simp] def f10r16 : List ROper := [
  ⟨some 60, .faddr 0 (.t 1), none⟩,
  ⟨some 61, .load 1 false (.t 60), none⟩,
  ⟨some 62, .faddr 0 (.t 13), none⟩,
  ⟨some 63, .load 1 false (.t 62), none⟩,
  ⟨some 64, .index (.t 61) (.t 63), none⟩,
  ⟨some 16, .mv (.t 64), none⟩]
@[simp] def f10r17 : List ROper := [
  ⟨some 65, .faddr 2 (.t 13), none⟩,
  ⟨some 66, .load 1 false (.t 65), none⟩,
  ⟨some 67, .bin .eql (.t 66) (.c (.int .i64 (.ofNat 1))), none⟩,
  ⟨some 68, .mv (.t 67), none⟩,
  ⟨some 69, .faddr 2 (.t 13), some (68, false)⟩,
  ⟨some 70, .load 1 false (.t 69), some (68, false)⟩,
  ⟨some 71, .bin .eql (.t 70) (.c (.int .i64 (.ofNat 2))), some (68, false)⟩,
  ⟨some 72, .pick (.t 68) (.c (.bool true)) (.t 71), none⟩,
  ⟨some 17, .mv (.t 72), none⟩]
@[simp] def f10r18 : List ROper := [
  ⟨some 74, .mv (.t 17), none⟩,
  ⟨some 75, .mv (.t 74), none⟩,
  ⟨some 76, .faddr 2 (.t 13), some (75, false)⟩,
  ⟨some 77, .load 1 false (.t 76), some (75, false)⟩,
  ⟨some 78, .bin .eql (.t 77) (.c (.int .i64 (.ofNat 3))), some (75, false)⟩,
  ⟨some 79, .pick (.t 75) (.c (.bool true)) (.t 78), none⟩,
  ⟨some 73, .mv (.t 79), none⟩]
@[simp] def f10r19 : List ROper := [
  ⟨some 80, .mv (.t 16), none⟩,
  ⟨some 81, .faddr 3 (.t 15), none⟩,
  ⟨some 82, .load 1 false (.t 81), none⟩,
  ⟨some 83, .call 30 [(.t 80), (.t 82)], none⟩,
  ⟨some 84, .faddr 1 (.t 14), none⟩,
  ⟨some 85, .load 1 false (.t 84), none⟩,
  ⟨some 86, .bin .add (.t 83) (.t 85), none⟩,
  ⟨some 87, .faddr 4 (.t 15), none⟩,
  ⟨none, .store 1 (.t 87) (.t 86), none⟩]
@[simp] def f10r20 : List ROper := [
  ⟨some 89, .faddr 2 (.t 13), none⟩,
  ⟨some 90, .load 1 false (.t 89), none⟩,
  ⟨some 91, .bin .eql (.t 90) (.c (.int .i64 (.ofNat 7))), none⟩,
  ⟨some 88, .mv (.t 91), none⟩]
@[simp] def f10r21 : List ROper := [
  ⟨some 92, .mv (.t 8), none⟩,
  ⟨some 93, .iaddr 1 (.t 92) (.c (.int .i64 (.ofNat 0))), none⟩,
  ⟨some 94, .load 1 false (.t 93), none⟩,
  ⟨some 95, .faddr 3 (.t 15), none⟩,
  ⟨some 96, .load 1 false (.t 95), none⟩,
  ⟨some 97, .call 31 [(.t 94), (.t 96)], none⟩,
  ⟨some 98, .faddr 4 (.t 15), none⟩,
  ⟨none, .store 1 (.t 98) (.t 97), none⟩]
@[simp] def f10r22 : List ROper := [
  ⟨some 99, .mv (.t 8), none⟩,
  ⟨some 100, .slice false 1 (.t 99) (some (.c (.int .i64 (.ofNat 1)))) none none, none⟩,
  ⟨some 8, .mv (.t 100), none⟩]
def f10K2 : RC := .block 2 (.seq (.region f10r18 [1, 7, 8, 9, 10, 11, 13, 14, 15, 16, 17, 34, 35, 36, 73]) (.cond (.t 73) (.dregion f10r19 [] [] [1, 7, 8, 9, 10, 11, 14, 15, 16, 17, 34, 35, 36]) (.seq (.region f10r20 [1, 7, 8, 9, 10, 11, 14, 15, 16, 17, 34, 35, 36, 88]) (.cond (.t 88) (.seq (.dregion f10r21 [] [] [1, 7, 8, 9, 10, 11, 14, 15, 16, 17, 34, 35, 36]) (.region f10r22 [1, 7, 8, 9, 10, 11, 14, 15, 16, 17, 34, 35, 36])) .skip))))
@[simp] def f10r23 : List ROper := [
  ⟨some 101, .mv (.t 17), none⟩,
  ⟨some 102, .mv (.t 101), none⟩,
  ⟨some 103, .faddr 2 (.t 14), some (102, true)⟩,
  ⟨some 104, .load 1 false (.t 103), some (102, true)⟩,
  ⟨some 105, .bin .eql (.t 104) (.c (.int .i64 (.ofNat 1))), some (102, true)⟩,
  ⟨some 106, .pick (.t 102) (.t 105) (.c (.bool false)), none⟩,
  ⟨some 107, .mv (.t 106), none⟩,
  ⟨some 108, .mv (.t 10), some (107, true)⟩,
  ⟨some 109, .pick (.t 107) (.t 108) (.c (.bool false)), none⟩,
  ⟨some 110, .mv (.t 109), none⟩,
  ⟨some 111, .mv (.t 9), some (110, true)⟩,
  ⟨some 112, .mv (.t 9), some (110, true)⟩,
  ⟨some 113, .len .slice (.t 112), some (110, true)⟩,
  ⟨some 114, .bin .sub (.t 113) (.c (.int .i64 (.ofNat 1))), some (110, true)⟩,
  ⟨some 115, .iaddr 6 (.t 111) (.t 114), some (110, true)⟩,
  ⟨some 116, .faddr 3 (.t 115), some (110, true)⟩,
  ⟨some 117, .load 1 false (.t 116), some (110, true)⟩,
  ⟨some 118, .faddr 3 (.t 15), some (110, true)⟩,
  ⟨some 119, .load 1 false (.t 118), some (110, true)⟩,
  ⟨some 120, .bin .eql (.t 117) (.t 119), some (110, true)⟩,
  ⟨some 121, .pick (.t 110) (.t 120) (.c (.bool false)), none⟩]
@[simp] def f10r24 : List ROper := [
  ⟨some 122, .mv (.t 11), none⟩,
  ⟨some 123, .mv (.t 16), none⟩,
  ⟨some 124, .faddr 3 (.t 15), none⟩,
  ⟨some 125, .load 1 false (.t 124), none⟩,
  ⟨some 126, .call 32 [(.t 122), (.t 123), (.t 125)], none⟩,
  ⟨some 127, .faddr 5 (.t 15), none⟩,
  ⟨none, .store 1 (.t 127) (.t 126), none⟩]
@[simp] def f10r25 : List ROper := [
  ⟨some 128, .mv (.t 17), none⟩,
  ⟨some 129, .mv (.t 128), none⟩,
  ⟨some 130, .faddr 2 (.t 14), some (129, true)⟩,
  ⟨some 131, .load 1 false (.t 130), some (129, true)⟩,
  ⟨some 132, .bin .eql (.t 131) (.c (.int .i64 (.ofNat 1))), some (129, true)⟩,
  ⟨some 133, .pick (.t 129) (.t 132) (.c (.bool false)), none⟩,
  ⟨some 134, .mv (.t 16), none⟩,
  ⟨some 10, .mv (.t 133), none⟩,
  ⟨some 11, .mv (.t 134), none⟩]
@[simp] def f10r26 : List ROper := [
  ⟨some 135, .mv (.t 9), none⟩,
  ⟨some 136, .load 6 true (.t 15), none⟩,
  ⟨some 137, .lit 6 true [(.int .i64 (.ofNat 0)), (.int .i64 (.ofNat 0)), (.int .i64 (.ofNat 0)), (.int .i64 (.ofNat 0)), (.int .i64 (.ofNat 0)), (.int .i64 (.ofNat 0))] 1 [(0, (.t 136))], none⟩,
  ⟨some 138, .append 6 true 48 (.t 135) (.t 137), none⟩,
  ⟨some 9, .mv (.t 138), none⟩]
@[simp] def f10r27 : List ROper := [
  ⟨some 139, .bin .add (.t 36) (.c (.int .i64 (.ofNat 1))), none⟩,
  ⟨some 36, .mv (.t 139), none⟩]
def f10B0 : RC := (.seq (.region f10r10 [1, 7, 8, 9, 10, 11, 34, 35, 36, 37]) (.seq (.cond (.t 37) .skip (.exit 0)) (.seq (.block 1 (.seq (.region f10r11 [1, 7, 8, 9, 10, 11, 13, 34, 35, 36]) (.seq (.region f10r12 [1, 7, 8, 9, 10, 11, 13, 14, 34, 35, 36]) (.seq (.region f10r13 [1, 7, 8, 9, 10, 11, 13, 14, 15, 34, 35, 36]) (.seq (.seq (.region f10r14 [1, 7, 8, 9, 10, 11, 13, 14, 15, 34, 35, 36, 55]) (.cond (.t 55) (.region f10r15 [1, 7, 8, 9, 10, 11, 13, 14, 15, 34, 35, 36]) .skip)) (.seq (.region f10r16 [1, 7, 8, 9, 10, 11, 13, 14, 15, 16, 34, 35, 36]) (.seq (.region f10r17 [1, 7, 8, 9, 10, 11, 13, 14, 15, 16, 17, 34, 35, 36]) (.seq f10K2 (.seq (.seq (.dregion f10r23 [] [] [1, 7, 8, 9, 11, 14, 15, 16, 17, 34, 35, 36, 121]) (.cond (.t 121) (.region f10r24 [1, 7, 8, 9, 14, 15, 16, 17, 34, 35, 36]) .skip)) (.seq (.region f10r25 [1, 7, 8, 9, 10, 11, 15, 34, 35, 36]) (.region f10r26 [1, 7, 8, 9, 10, 11, 34, 35, 36]))))))))))) (.region f10r27 [1, 7, 8, 9, 10, 11, 34, 35, 36]))))
def f10L0 : RC := .loop [1, 7, 8, 9, 10, 11, 34, 35, 36] f10B0
@[simp] def f10r28 : List ROper := [
  ⟨some 140, .mv (.t 9), none⟩,
  ⟨some 2, .mv (.t 140), none⟩,
  ⟨some 3, .mv (.c (.int .i64 (.ofNat 0))), none⟩]
def f10 : RFunc := ⟨[.t 2, .t 3], (.seq (.region f10r0 [1]) (.seq (.seq (.region f10r1 [1, 4]) (.seq (.region f10r2 [1, 4, 21]) (.cond (.t 21) (.seq (.region f10r3 [2, 3]) .ret) .skip))) (.seq (.region f10r4 [1, 5]) (.seq (.region f10r5 [1, 5, 7]) (.seq (.region f10r6 [1, 5, 7, 8]) (.seq (.region f10r7 [1, 5, 7, 8, 9]) (.seq (.region f10r8 [1, 5, 7, 8, 9, 10, 11]) (.seq (.seq (.region f10r9 [1, 7, 8, 9, 10, 11, 34, 35, 36]) (.block 0 f10L0)) (.seq (.region f10r28 [2, 3]) .ret))))))))), true⟩

/-! quire/metric.Check -/
@[simp] def f13r0 : List ROper := [
  ⟨some 1, .box 21 (.t 0), none⟩,
  ⟨some 2, .mv (.c (.int .i64 (.ofNat 0))), none⟩]
@[simp] def f13r1 : List ROper := [
  ⟨some 8, .faddr 0 (.t 1), none⟩,
  ⟨some 9, .load 1 false (.t 8), none⟩,
  ⟨some 10, .call 27 [(.t 9)], none⟩,
  ⟨some 7, .mv (.t 10), none⟩,
  ⟨some 11, .extract (.t 7) 0, none⟩,
  ⟨some 12, .extract (.t 7) 1, none⟩,
  ⟨some 3, .mv (.t 11), none⟩,
  ⟨some 4, .mv (.t 12), none⟩]
@[simp] def f13r2 : List ROper := [
  ⟨some 13, .mv (.t 4), none⟩,
  ⟨some 14, .bin .neq (.t 13) (.c (.int .i64 (.ofNat 0))), none⟩]
@[simp] def f13r3 : List ROper := [
  ⟨some 15, .mv (.t 4), none⟩,
  ⟨some 2, .mv (.t 15), none⟩]
@[simp] def f13r4 : List ROper := [
  ⟨some 16, .faddr 0 (.t 1), none⟩,
  ⟨some 17, .load 1 false (.t 16), none⟩,
  ⟨some 18, .call 40 [(.t 17), (.c (.int .u8 (.ofNat 3)))], none⟩,
  ⟨some 19, .bin .geq (.t 18) (.c (.int .i64 (.ofNat 0))), none⟩]
@[simp] def f13r5 : List ROper := [
  ⟨some 2, .mv (.c (.int .i64 (.ofNat 4))), none⟩]
@[simp] def f13r6 : List ROper := [
  ⟨some 20, .faddr 1 (.t 1), none⟩,
  ⟨some 21, .load 1 false (.t 20), none⟩,
  ⟨some 22, .faddr 0 (.t 1), none⟩,
  ⟨some 23, .load 1 false (.t 22), none⟩,
  ⟨some 24, .len .str (.t 23), none⟩,
  ⟨some 25, .call 41 [(.t 21), (.t 24)], none⟩,
  ⟨some 26, .un .not (.t 25), none⟩,
  ⟨some 27, .mv (.t 26), none⟩,
  ⟨some 28, .faddr 2 (.t 1), some (27, false)⟩,
  ⟨some 29, .load 17 true (.t 28), some (27, false)⟩,
  ⟨some 30, .call 42 [(.t 29)], some (27, false)⟩,
  ⟨some 31, .un .not (.t 30), some (27, false)⟩,
  ⟨some 32, .pick (.t 27) (.c (.bool true)) (.t 31), none⟩,
  ⟨some 33, .mv (.t 32), none⟩,
  ⟨some 34, .faddr 19 (.t 1), some (33, false)⟩,
  ⟨some 35, .load 1 false (.t 34), some (33, false)⟩,
  ⟨some 36, .call 43 [(.t 35), (.c (.int .i64 (.ofNat 16)))], some (33, false)⟩,
  ⟨some 37, .un .not (.t 36), some (33, false)⟩,
  ⟨some 38, .pick (.t 33) (.c (.bool true)) (.t 37), none⟩,
  ⟨some 39, .mv (.t 38), none⟩,
  ⟨some 40, .faddr 20 (.t 1), some (39, false)⟩,
  ⟨some 41, .load 1 false (.t 40), some (39, false)⟩,
  ⟨some 42, .len .slice (.t 41), some (39, false)⟩,
  ⟨some 43, .faddr 0 (.t 1), some (39, false)⟩,
  ⟨some 44, .load 1 false (.t 43), some (39, false)⟩,
  ⟨some 45, .call 44 [(.t 44), (.c (.str [2]))], some (39, false)⟩,
  ⟨some 46, .bin .neq (.t 42) (.t 45), some (39, false)⟩,
  ⟨some 47, .pick (.t 39) (.c (.bool true)) (.t 46), none⟩]
@[simp] def f13r7 : List ROper := [
  ⟨some 2, .mv (.c (.int .i64 (.ofNat 2))), none⟩]
@[simp] def f13r8 : List ROper := [
  ⟨some 48, .faddr 20 (.t 1), none⟩,
  ⟨some 49, .load 1 false (.t 48), none⟩,
  ⟨some 50, .len .slice (.t 49), none⟩,
  ⟨some 51, .mv (.c (.int .i64 (.ofNat 0))), none⟩]
@[simp] def f13r9 : List ROper := [
  ⟨some 52, .bin .lss (.t 51) (.t 50), none⟩]
@[simp] def f13r10 : List ROper := [
  ⟨some 53, .iaddr 1 (.t 49) (.t 51), none⟩,
  ⟨some 54, .load 1 false (.t 53), none⟩,
  ⟨some 6, .mv (.t 54), none⟩]
@[simp] def f13r11 : List ROper := [
  ⟨some 55, .mv (.t 6), none⟩,
  ⟨some 56, .bin .eql (.t 55) (.c (.str [])), none⟩,
  ⟨some 57, .mv (.t 56), none⟩,
  ⟨some 58, .mv (.t 6), some (57, false)⟩,
  ⟨some 59, .call 43 [(.t 58), (.c (.int .i64 (.ofNat 8)))], some (57, false)⟩,
  ⟨some 60, .un .not (.t 59), some (57, false)⟩,
  ⟨some 61, .pick (.t 57) (.c (.bool true)) (.t 60), none⟩]
@[simp] def f13r12 : List ROper := [
  ⟨some 2, .mv (.c (.int .i64 (.ofNat 2))), none⟩]
@[simp] def f13r13 : List ROper := [
  ⟨some 62, .bin .add (.t 51) (.c (.int .i64 (.ofNat 1))), none⟩,
  ⟨some 51, .mv (.t 62), none⟩]
def f13B0 : RC := (.seq (.region f13r9 [49, 50, 51, 52]) (.seq (.cond (.t 52) .skip (.exit 0)) (.seq (.block 1 (.seq (.region f13r10 [6, 49, 50, 51]) (.seq (.region f13r11 [49, 50, 51, 61]) (.cond (.t 61) (.seq (.region f13r12 [2]) .ret) .skip)))) (.region f13r13 [49, 50, 51]))))
def f13L0 : RC := .loop [49, 50, 51] f13B0
@[simp] def f13r14 : List ROper := [
  ⟨some 2, .mv (.c (.int .i64 (.ofNat 0))), none⟩]
def f13 : RFunc := ⟨[.t 2], (.seq (.region f13r0 [1]) (.seq (.seq (.region f13r1 [1, 4]) (.seq (.region f13r2 [1, 4, 14]) (.cond (.t 14) (.seq (.region f13r3 [2]) .ret) .skip))) (.seq (.seq (.region f13r4 [1, 19]) (.cond (.t 19) (.seq (.region f13r5 [2]) .ret) .skip)) (.seq (.seq (.dregion f13r6 [] [] [1, 47]) (.cond (.t 47) (.seq (.region f13r7 [2]) .ret) .skip)) (.seq (.seq (.region f13r8 [49, 50, 51]) (.block 0 f13L0)) (.seq (.region f13r14 [2]) .ret)))))), true⟩

/-! quire/metric.Width -/
@[simp] def f17r0 : List ROper := [
  ⟨some 4, .mv (.c (.int .i64 (.ofNat 0))), none⟩,
  ⟨some 5, .mv (.c (.int .i64 (.ofNat 0))), none⟩]
@[simp] def f17r1 : List ROper := [
  ⟨some 6, .mv (.t 1), none⟩,
  ⟨some 7, .call 51 [(.t 6)], none⟩,
  ⟨some 8, .un .not (.t 7), none⟩]
@[simp] def f17r2 : List ROper := [
  ⟨some 4, .mv (.c (.int .i64 (.ofNat 0))), none⟩,
  ⟨some 5, .mv (.c (.int .i64 (.ofNat 5))), none⟩]
@[simp] def f17r3 : List ROper := [
  ⟨some 9, .mv (.t 0), none⟩,
  ⟨some 10, .len .str (.t 9), none⟩,
  ⟨some 11, .bin .gtr (.t 10) (.c (.int .i64 (.ofNat 4096))), none⟩]
@[simp] def f17r4 : List ROper := [
  ⟨some 4, .mv (.c (.int .i64 (.ofNat 0))), none⟩,
  ⟨some 5, .mv (.c (.int .i64 (.ofNat 3))), none⟩]
@[simp] def f17r5 : List ROper := [
  ⟨some 12, .mv (.t 0), none⟩,
  ⟨some 13, .mv (.t 1), none⟩,
  ⟨some 14, .call 31 [(.t 12), (.t 13)], none⟩,
  ⟨some 4, .mv (.t 14), none⟩,
  ⟨some 5, .mv (.c (.int .i64 (.ofNat 0))), none⟩]
def f17 : RFunc := ⟨[.t 4, .t 5], (.seq (.region f17r0 [0, 1]) (.seq (.seq (.region f17r1 [0, 1, 8]) (.cond (.t 8) (.seq (.region f17r2 [4, 5]) .ret) .skip)) (.seq (.seq (.region f17r3 [0, 1, 11]) (.cond (.t 11) (.seq (.region f17r4 [4, 5]) .ret) .skip)) (.seq (.region f17r5 [4, 5]) .ret)))), true⟩

/-! quire/metric.Em -/
@[simp] def f21r0 : List ROper := [
  ⟨some 2, .mv (.c (.int .i64 (.ofNat 0))), none⟩]
@[simp] def f21r1 : List ROper := [
  ⟨some 4, .mv (.t 0), none⟩,
  ⟨some 5, .call 40 [(.c (.str [105, 106, 108, 39, 46, 44, 58, 59, 33, 124])), (.t 4)], none⟩,
  ⟨some 6, .bin .geq (.t 5) (.c (.int .i64 (.ofNat 0))), none⟩,
  ⟨some 3, .mv (.t 6), none⟩]
@[simp] def f21r2 : List ROper := [
  ⟨some 2, .mv (.c (.int .i64 (.ofNat 2))), none⟩]
@[simp] def f21r3 : List ROper := [
  ⟨some 8, .mv (.t 0), none⟩,
  ⟨some 9, .call 40 [(.c (.str [102, 116, 114, 40, 41, 91, 93, 123, 125, 45, 34, 94, 95, 126, 96, 73, 32])), (.t 8)], none⟩,
  ⟨some 10, .bin .geq (.t 9) (.c (.int .i64 (.ofNat 0))), none⟩,
  ⟨some 7, .mv (.t 10), none⟩]
@[simp] def f21r4 : List ROper := [
  ⟨some 2, .mv (.c (.int .i64 (.ofNat 3))), none⟩]
@[simp] def f21r5 : List ROper := [
  ⟨some 12, .mv (.t 0), none⟩,
  ⟨some 13, .bin .eql (.t 12) (.c (.int .u8 (.ofNat 109))), none⟩,
  ⟨some 14, .mv (.t 13), none⟩,
  ⟨some 15, .mv (.t 0), some (14, false)⟩,
  ⟨some 16, .bin .eql (.t 15) (.c (.int .u8 (.ofNat 119))), some (14, false)⟩,
  ⟨some 17, .pick (.t 14) (.c (.bool true)) (.t 16), none⟩,
  ⟨some 11, .mv (.t 17), none⟩]
@[simp] def f21r6 : List ROper := [
  ⟨some 2, .mv (.c (.int .i64 (.ofNat 7))), none⟩]
@[simp] def f21r7 : List ROper := [
  ⟨some 19, .mv (.t 0), none⟩,
  ⟨some 20, .bin .eql (.t 19) (.c (.int .u8 (.ofNat 77))), none⟩,
  ⟨some 21, .mv (.t 20), none⟩,
  ⟨some 22, .mv (.t 0), some (21, false)⟩,
  ⟨some 23, .bin .eql (.t 22) (.c (.int .u8 (.ofNat 87))), some (21, false)⟩,
  ⟨some 24, .pick (.t 21) (.c (.bool true)) (.t 23), none⟩,
  ⟨some 18, .mv (.t 24), none⟩]
@[simp] def f21r8 : List ROper := [
  ⟨some 2, .mv (.c (.int .i64 (.ofNat 8))), none⟩]
@[simp] def f21r9 : List ROper := [
  ⟨some 26, .mv (.t 0), none⟩,
  ⟨some 27, .bin .geq (.t 26) (.c (.int .u8 (.ofNat 65))), none⟩,
  ⟨some 28, .mv (.t 27), none⟩,
  ⟨some 29, .mv (.t 0), some (28, true)⟩,
  ⟨some 30, .bin .leq (.t 29) (.c (.int .u8 (.ofNat 90))), some (28, true)⟩,
  ⟨some 31, .pick (.t 28) (.t 30) (.c (.bool false)), none⟩,
  ⟨some 25, .mv (.t 31), none⟩]
@[simp] def f21r10 : List ROper := [
  ⟨some 2, .mv (.c (.int .i64 (.ofNat 6))), none⟩]
@[simp] def f21r11 : List ROper := [
  ⟨some 33, .mv (.t 0), none⟩,
  ⟨some 34, .bin .geq (.t 33) (.c (.int .u8 (.ofNat 97))), none⟩,
  ⟨some 35, .mv (.t 34), none⟩,
  ⟨some 36, .mv (.t 0), some (35, true)⟩,
  ⟨some 37, .bin .leq (.t 36) (.c (.int .u8 (.ofNat 122))), some (35, true)⟩,
  ⟨some 38, .pick (.t 35) (.t 37) (.c (.bool false)), none⟩,
  ⟨some 39, .mv (.t 38), none⟩,
  ⟨some 40, .mv (.t 0), some (39, false)⟩,
  ⟨some 41, .bin .geq (.t 40) (.c (.int .u8 (.ofNat 48))), some (39, false)⟩,
  ⟨some 42, .mv (.t 41), some (39, false)⟩,
  ⟨some 43, .mv (.t 0), some (42, true)⟩,
  ⟨some 44, .bin .leq (.t 43) (.c (.int .u8 (.ofNat 57))), some (42, true)⟩,
  ⟨some 45, .pick (.t 42) (.t 44) (.c (.bool false)), some (39, false)⟩,
  ⟨some 46, .pick (.t 39) (.c (.bool true)) (.t 45), none⟩,
  ⟨some 32, .mv (.t 46), none⟩]
@[simp] def f21r12 : List ROper := [
  ⟨some 2, .mv (.c (.int .i64 (.ofNat 5))), none⟩]
@[simp] def f21r13 : List ROper := [
  ⟨some 48, .mv (.t 0), none⟩,
  ⟨some 49, .bin .gtr (.t 48) (.c (.int .u8 (.ofNat 32))), none⟩,
  ⟨some 50, .mv (.t 49), none⟩,
  ⟨some 51, .mv (.t 0), some (50, true)⟩,
  ⟨some 52, .bin .leq (.t 51) (.c (.int .u8 (.ofNat 126))), some (50, true)⟩,
  ⟨some 53, .pick (.t 50) (.t 52) (.c (.bool false)), none⟩,
  ⟨some 47, .mv (.t 53), none⟩]
@[simp] def f21r14 : List ROper := [
  ⟨some 2, .mv (.c (.int .i64 (.ofNat 6))), none⟩]
@[simp] def f21r15 : List ROper := [
  ⟨some 2, .mv (.c (.int .i64 (.ofNat 0))), none⟩]
def f21 : RFunc := ⟨[.t 2], (.seq (.region f21r0 [0]) (.seq (.block 0 (.seq (.region f21r1 [0, 3]) (.cond (.t 3) (.seq (.region f21r2 [2]) .ret) (.seq (.region f21r3 [0, 7]) (.cond (.t 7) (.seq (.region f21r4 [2]) .ret) (.seq (.region f21r5 [0, 11]) (.cond (.t 11) (.seq (.region f21r6 [2]) .ret) (.seq (.region f21r7 [0, 18]) (.cond (.t 18) (.seq (.region f21r8 [2]) .ret) (.seq (.region f21r9 [0, 25]) (.cond (.t 25) (.seq (.region f21r10 [2]) .ret) (.seq (.region f21r11 [0, 32]) (.cond (.t 32) (.seq (.region f21r12 [2]) .ret) (.seq (.region f21r13 [47]) (.cond (.t 47) (.seq (.region f21r14 [2]) .ret) .skip))))))))))))))) (.seq (.region f21r15 [2]) .ret))), true⟩

/-! quire/metric.Natural -/
@[simp] def f23r0 : List ROper := [
  ⟨some 6, .mv (.c (.int .i64 (.ofNat 0))), none⟩,
  ⟨some 7, .mv (.c (.int .i64 (.ofNat 0))), none⟩]
@[simp] def f23r1 : List ROper := [
  ⟨some 13, .mv (.t 0), none⟩,
  ⟨some 14, .len .slice (.t 13), none⟩,
  ⟨some 15, .bin .gtr (.t 14) (.c (.int .i64 (.ofNat 4096))), none⟩]
@[simp] def f23r2 : List ROper := [
  ⟨some 6, .mv (.c (.int .i64 (.ofNat 0))), none⟩,
  ⟨some 7, .mv (.c (.int .i64 (.ofNat 3))), none⟩]
@[simp] def f23r3 : List ROper := [
  ⟨some 16, .mv (.t 0), none⟩,
  ⟨some 17, .len .slice (.t 16), none⟩,
  ⟨some 18, .mv (.c (.int .i64 (.ofNat 0))), none⟩]
@[simp] def f23r4 : List ROper := [
  ⟨some 19, .bin .lss (.t 18) (.t 17), none⟩]
@[simp] def f23r5 : List ROper := [
  ⟨some 20, .iaddr 6 (.t 16) (.t 18), none⟩,
  ⟨some 21, .load 6 true (.t 20), none⟩,
  ⟨some 9, .alloc [(.int .i64 (.ofNat 0)), (.int .i64 (.ofNat 0)), (.int .i64 (.ofNat 0)), (.int .i64 (.ofNat 0)), (.int .i64 (.ofNat 0)), (.int .i64 (.ofNat 0))], none⟩,
  ⟨none, .store 6 (.t 9) (.t 21), none⟩]
@[simp] def f23r6 : List ROper := [
  ⟨some 22, .faddr 4 (.t 9), none⟩,
  ⟨some 23, .load 1 false (.t 22), none⟩,
  ⟨some 24, .bin .lss (.t 23) (.c (.int .i64 (.ofNat 0))), none⟩,
  ⟨some 25, .mv (.t 24), none⟩,
  ⟨some 26, .faddr 4 (.t 9), some (25, false)⟩,
  ⟨some 27, .load 1 false (.t 26), some (25, false)⟩,
  ⟨some 28, .bin .gtr (.t 27) (.c (.int .i64 (.ofNat 4095))), some (25, false)⟩,
  ⟨some 29, .pick (.t 25) (.c (.bool true)) (.t 28), none⟩,
  ⟨some 30, .mv (.t 29), none⟩,
  ⟨some 31, .faddr 5 (.t 9), some (30, false)⟩,
  ⟨some 32, .load 1 false (.t 31), some (30, false)⟩,
  ⟨some 33, .bin .lss (.t 32) (.c (.int .i64 (.negSucc 63))), some (30, false)⟩,
  ⟨some 34, .pick (.t 30) (.c (.bool true)) (.t 33), none⟩,
  ⟨some 35, .mv (.t 34), none⟩,
  ⟨some 36, .faddr 5 (.t 9), some (35, false)⟩,
  ⟨some 37, .load 1 false (.t 36), some (35, false)⟩,
  ⟨some 38, .bin .gtr (.t 37) (.c (.int .i64 (.ofNat 0))), some (35, false)⟩,
  ⟨some 39, .pick (.t 35) (.c (.bool true)) (.t 38), none⟩]
@[simp] def f23r7 : List ROper := [
  ⟨some 6, .mv (.c (.int .i64 (.ofNat 0))), none⟩,
  ⟨some 7, .mv (.c (.int .i64 (.ofNat 2))), none⟩]
@[simp] def f23r8 : List ROper := [
  ⟨some 40, .bin .add (.t 18) (.c (.int .i64 (.ofNat 1))), none⟩,
  ⟨some 18, .mv (.t 40), none⟩]
def f23B0 : RC := (.seq (.region f23r4 [0, 1, 2, 16, 17, 18, 19]) (.seq (.cond (.t 19) .skip (.exit 0)) (.seq (.block 1 (.seq (.region f23r5 [0, 1, 2, 9, 16, 17, 18]) (.seq (.region f23r6 [0, 1, 2, 16, 17, 18, 39]) (.cond (.t 39) (.seq (.region f23r7 [6, 7]) .ret) .skip)))) (.region f23r8 [0, 1, 2, 16, 17, 18]))))
def f23L0 : RC := .loop [0, 1, 2, 16, 17, 18] f23B0
@[simp] def f23r9 : List ROper := [
  ⟨some 41, .mv (.t 1), none⟩,
  ⟨some 42, .bin .lss (.t 41) (.c (.int .i64 (.ofNat 0))), none⟩,
  ⟨some 43, .mv (.t 42), none⟩,
  ⟨some 44, .mv (.t 2), some (43, false)⟩,
  ⟨some 45, .mv (.t 1), some (43, false)⟩,
  ⟨some 46, .bin .lss (.t 44) (.t 45), some (43, false)⟩,
  ⟨some 47, .pick (.t 43) (.c (.bool true)) (.t 46), none⟩,
  ⟨some 48, .mv (.t 47), none⟩,
  ⟨some 49, .mv (.t 2), some (48, false)⟩,
  ⟨some 50, .mv (.t 0), some (48, false)⟩,
  ⟨some 51, .len .slice (.t 50), some (48, false)⟩,
  ⟨some 52, .bin .gtr (.t 49) (.t 51), some (48, false)⟩,
  ⟨some 53, .pick (.t 48) (.c (.bool true)) (.t 52), none⟩]
@[simp] def f23r10 : List ROper := [
  ⟨some 6, .mv (.c (.int .i64 (.ofNat 0))), none⟩,
  ⟨some 7, .mv (.c (.int .i64 (.ofNat 5))), none⟩]
@[simp] def f23r11 : List ROper := [
  ⟨some 10, .mv (.c (.int .i64 (.ofNat 0))), none⟩]
@[simp] def f23r12 : List ROper := [
  ⟨some 54, .mv (.t 0), none⟩,
  ⟨some 55, .mv (.t 1), none⟩,
  ⟨some 56, .mv (.t 2), none⟩,
  ⟨some 57, .slice false 6 (.t 54) (some (.t 55)) (some (.t 56)) none, none⟩,
  ⟨some 58, .len .slice (.t 57), none⟩,
  ⟨some 59, .mv (.c (.int .i64 (.ofNat 0))), none⟩]
@[simp] def f23r13 : List ROper := [
  ⟨some 60, .bin .lss (.t 59) (.t 58), none⟩]
@[simp] def f23r14 : List ROper := [
  ⟨some 61, .mv (.t 59), none⟩,
  ⟨some 62, .iaddr 6 (.t 57) (.t 59), none⟩,
  ⟨some 63, .load 6 true (.t 62), none⟩,
  ⟨some 12, .alloc [(.int .i64 (.ofNat 0)), (.int .i64 (.ofNat 0)), (.int .i64 (.ofNat 0)), (.int .i64 (.ofNat 0)), (.int .i64 (.ofNat 0)), (.int .i64 (.ofNat 0))], none⟩,
  ⟨some 11, .mv (.t 61), none⟩,
  ⟨none, .store 6 (.t 12) (.t 63), none⟩]
@[simp] def f23r15 : List ROper := [
  ⟨some 64, .mv (.t 10), none⟩,
  ⟨some 65, .faddr 4 (.t 12), none⟩,
  ⟨some 66, .load 1 false (.t 65), none⟩,
  ⟨some 67, .bin .add (.t 64) (.t 66), none⟩,
  ⟨some 10, .mv (.t 67), none⟩]
@[simp] def f23r16 : List ROper := [
  ⟨some 68, .mv (.t 11), none⟩,
  ⟨some 69, .bin .gtr (.t 68) (.c (.int .i64 (.ofNat 0))), none⟩]
@[simp] def f23r17 : List ROper := [
  ⟨some 70, .mv (.t 10), none⟩,
  ⟨some 71, .faddr 5 (.t 12), none⟩,
  ⟨some 72, .load 1 false (.t 71), none⟩,
  ⟨some 73, .bin .add (.t 70) (.t 72), none⟩,
  ⟨some 10, .mv (.t 73), none⟩]
@[simp] def f23r18 : List ROper := [
  ⟨some 74, .bin .add (.t 59) (.c (.int .i64 (.ofNat 1))), none⟩,
  ⟨some 59, .mv (.t 74), none⟩]
def f23B1 : RC := (.seq (.region f23r13 [10, 57, 58, 59, 60]) (.seq (.cond (.t 60) .skip (.exit 2)) (.seq (.block 3 (.seq (.region f23r14 [10, 11, 12, 57, 58, 59]) (.seq (.region f23r15 [10, 11, 12, 57, 58, 59]) (.seq (.region f23r16 [10, 12, 57, 58, 59, 69]) (.cond (.t 69) (.region f23r17 [10, 57, 58, 59]) .skip))))) (.region f23r18 [10, 57, 58, 59]))))
def f23L1 : RC := .loop [10, 57, 58, 59] f23B1
@[simp] def f23r19 : List ROper := [
  ⟨some 75, .mv (.t 10), none⟩,
  ⟨some 6, .mv (.t 75), none⟩,
  ⟨some 7, .mv (.c (.int .i64 (.ofNat 0))), none⟩]
def f23 : RFunc := ⟨[.t 6, .t 7], (.seq (.region f23r0 [0, 1, 2]) (.seq (.seq (.region f23r1 [0, 1, 2, 15]) (.cond (.t 15) (.seq (.region f23r2 [6, 7]) .ret) .skip)) (.seq (.seq (.region f23r3 [0, 1, 2, 16, 17, 18]) (.block 0 f23L0)) (.seq (.seq (.region f23r9 [0, 1, 2, 53]) (.cond (.t 53) (.seq (.region f23r10 [6, 7]) .ret) .skip)) (.seq (.region f23r11 [0, 1, 2, 10]) (.seq (.seq (.region f23r12 [10, 57, 58, 59]) (.block 2 f23L1)) (.seq (.region f23r19 [6, 7]) .ret))))))), true⟩

/-! quire/cluster.Split -/
@[simp] def f27r0 : List ROper := [
  ⟨some 2, .mv (.c (.list 0 0 .no false [])), none⟩,
  ⟨some 3, .mv (.c (.int .i64 (.ofNat 0))), none⟩]
@[simp] def f27r1 : List ROper := [
  ⟨some 7, .mv (.t 0), none⟩,
  ⟨some 8, .call 54 [(.t 7)], none⟩,
  ⟨some 4, .mv (.t 8), none⟩]
@[simp] def f27r2 : List ROper := [
  ⟨some 9, .mv (.t 4), none⟩,
  ⟨some 10, .bin .neq (.t 9) (.c (.int .i64 (.ofNat 0))), none⟩]
@[simp] def f27r3 : List ROper := [
  ⟨some 11, .mv (.t 4), none⟩,
  ⟨some 2, .mv (.c (.list 0 0 .no false [])), none⟩,
  ⟨some 3, .mv (.t 11), none⟩]
@[simp] def f27r4 : List ROper := [
  ⟨some 5, .alloc [(.list 0 0 .no false [])], none⟩]
@[simp] def f27r5 : List ROper := [
  ⟨some 12, .mv (.t 0), none⟩,
  ⟨some 13, .call 55 [(.t 12)], none⟩]
@[simp] def f27r6 : List ROper := [
  ⟨some 6, .alloc [(.int .i64 (.ofNat 0)), (.int .i64 (.ofNat 0)), (.int .i64 (.ofNat 0))], none⟩,
  ⟨none, .store 3 (.t 6) (.t 14), none⟩]
@[simp] def f27r7 : List ROper := [
  ⟨some 15, .load 1 false (.t 5), none⟩,
  ⟨some 16, .load 3 true (.t 6), none⟩,
  ⟨some 17, .lit 3 true [(.int .i64 (.ofNat 0)), (.int .i64 (.ofNat 0)), (.int .i64 (.ofNat 0))] 1 [(0, (.t 16))], none⟩,
  ⟨some 18, .append 3 true 24 (.t 15) (.t 17), none⟩,
  ⟨none, .store 1 (.t 5) (.t 18), none⟩]
@[simp] def f27r8 : List ROper := [
  ⟨some 19, .load 1 false (.t 5), none⟩,
  ⟨some 2, .mv (.t 19), none⟩,
  ⟨some 3, .mv (.c (.int .i64 (.ofNat 0))), none⟩]
def f27 : RFunc := ⟨[.t 2, .t 3], (.seq (.region f27r0 [0]) (.seq (.seq (.region f27r1 [0, 4]) (.seq (.region f27r2 [0, 4, 10]) (.cond (.t 10) (.seq (.region f27r3 [2, 3]) .ret) .skip))) (.seq (.region f27r4 [0, 5]) (.seq (.seq (.region f27r5 [5, 13]) (.block 0 (.rfunc (.t 13) [14] (.region f27r6 [5, 6]) (.block 1 (.region f27r7 [])) [5, 13]))) (.seq (.region f27r8 [2, 3]) .ret))))), true⟩

/-! quire/metric.looks -/
@[simp] def f29r0 : List ROper := [
  ⟨some 1, .box 1 (.t 0), none⟩,
  ⟨some 2, .mv (.c .nilfn), none⟩]
@[simp] def f29r1 : List ROper := [
  ⟨some 3, .alloc [(.int .i64 (.ofNat 0))], none⟩,
  ⟨none, .store 1 (.t 3) (.c (.int .i64 (.ofNat 0))), none⟩]
@[simp] def f29r2 : List ROper := [
  ⟨some 4, .load 1 false (.t 1), none⟩,
  ⟨some 5, .len .slice (.t 4), none⟩,
  ⟨some 6, .bin .gtr (.t 5) (.c (.int .i64 (.ofNat 0))), none⟩]
@[simp] def f29r3 : List ROper := [
  ⟨some 7, .load 1 false (.t 1), none⟩,
  ⟨some 8, .iaddr 4 (.t 7) (.c (.int .i64 (.ofNat 0))), none⟩,
  ⟨some 9, .faddr 0 (.t 8), none⟩,
  ⟨some 10, .load 1 false (.t 9), none⟩,
  ⟨none, .store 1 (.t 3) (.t 10), none⟩]
@[simp] def f29r4 : List ROper := [
  ⟨some 11, .mkfn 56 [] [(.t 1), (.t 3)], none⟩,
  ⟨some 2, .mv (.t 11), none⟩]
def f29 : RFunc := ⟨[.t 2], (.seq (.region f29r0 [1]) (.seq (.region f29r1 [1, 3]) (.seq (.seq (.region f29r2 [1, 3, 6]) (.cond (.t 6) (.region f29r3 [1, 3]) .skip)) (.seq (.region f29r4 [2]) .ret)))), false⟩

/-! quire/metric.wide -/
@[simp] def f30r0 : List ROper := [
  ⟨some 4, .mv (.c (.int .i64 (.ofNat 0))), none⟩]
@[simp] def f30r1 : List ROper := [
  ⟨some 5, .mv (.t 0), none⟩,
  ⟨some 6, .call 21 [(.t 5)], none⟩,
  ⟨some 7, .mv (.t 1), none⟩,
  ⟨some 8, .bin .mul (.t 6) (.t 7), none⟩,
  ⟨some 9, .bin .quo (.t 8) (.c (.int .i64 (.ofNat 8))), none⟩,
  ⟨some 4, .mv (.t 9), none⟩]
def f30 : RFunc := ⟨[.t 4], (.seq (.region f30r0 [0, 1]) (.seq (.region f30r1 [4]) .ret)), true⟩

/-! quire/metric.text -/
@[simp] def f31r0 : List ROper := [
  ⟨some 4, .mv (.c (.int .i64 (.ofNat 0))), none⟩]
@[simp] def f31r1 : List ROper := [
  ⟨some 5, .mv (.c (.int .i64 (.ofNat 0))), none⟩]
@[simp] def f31r2 : List ROper := [
  ⟨some 8, .mv (.t 0), none⟩,
  ⟨some 9, .s2b (.t 8), none⟩,
  ⟨some 10, .len .slice (.t 9), none⟩,
  ⟨some 11, .mv (.c (.int .i64 (.ofNat 0))), none⟩]
@[simp] def f31r3 : List ROper := [
  ⟨some 12, .bin .lss (.t 11) (.t 10), none⟩]
@[simp] def f31r4 : List ROper := [
  ⟨some 13, .iaddr 1 (.t 9) (.t 11), none⟩,
  ⟨some 14, .load 1 false (.t 13), none⟩,
  ⟨some 7, .mv (.t 14), none⟩]
@[simp] def f31r5 : List ROper := [
  ⟨some 15, .mv (.t 5), none⟩,
  ⟨some 16, .mv (.t 7), none⟩,
  ⟨some 17, .mv (.t 1), none⟩,
  ⟨some 18, .call 30 [(.t 16), (.t 17)], none⟩,
  ⟨some 19, .bin .add (.t 15) (.t 18), none⟩,
  ⟨some 5, .mv (.t 19), none⟩]
@[simp] def f31r6 : List ROper := [
  ⟨some 20, .bin .add (.t 11) (.c (.int .i64 (.ofNat 1))), none⟩,
  ⟨some 11, .mv (.t 20), none⟩]
def f31B0 : RC := (.seq (.region f31r3 [1, 5, 9, 10, 11, 12]) (.seq (.cond (.t 12) .skip (.exit 0)) (.seq (.block 1 (.seq (.region f31r4 [1, 5, 7, 9, 10, 11]) (.region f31r5 [1, 5, 9, 10, 11]))) (.region f31r6 [1, 5, 9, 10, 11]))))
def f31L0 : RC := .loop [1, 5, 9, 10, 11] f31B0
@[simp] def f31r7 : List ROper := [
  ⟨some 21, .mv (.t 5), none⟩,
  ⟨some 4, .mv (.t 21), none⟩]
def f31 : RFunc := ⟨[.t 4], (.seq (.region f31r0 [0, 1]) (.seq (.region f31r1 [0, 1, 5]) (.seq (.seq (.region f31r2 [1, 5, 9, 10, 11]) (.block 0 f31L0)) (.seq (.region f31r7 [4]) .ret)))), true⟩

/-! quire/metric.nearer -/
@[simp] def f32r0 : List ROper := [
  ⟨some 6, .mv (.c (.int .i64 (.ofNat 0))), none⟩]
@[simp] def f32r1 : List ROper := [
  ⟨some 7, .mv (.c (.int .i64 (.ofNat 0))), none⟩]
@[simp] def f32r2 : List ROper := [
  ⟨some 8, .mv (.t 0), none⟩,
  ⟨some 9, .mv (.t 1), none⟩,
  ⟨some 10, .call 57 [(.c (.str [65, 84, 32, 65, 86, 32, 65, 87, 32, 65, 89, 32, 84, 65, 32, 86, 65, 32, 87, 65, 32, 89, 65, 32, 76, 84, 32, 76, 86, 32, 76, 89, 32, 80, 65, 32, 84, 111, 32, 84, 97, 32, 84, 101, 32, 86, 111, 32, 86, 97, 32, 89, 111, 32, 89, 97, 32])), (.t 8), (.t 9)], none⟩]
@[simp] def f32r3 : List ROper := [
  ⟨some 7, .mv (.c (.int .i64 (.ofNat 2))), none⟩]
@[simp] def f32r4 : List ROper := [
  ⟨some 11, .mv (.t 0), none⟩,
  ⟨some 12, .mv (.t 1), none⟩,
  ⟨some 13, .call 57 [(.c (.str [114, 46, 32, 114, 44, 32, 102, 46, 32, 102, 44, 32, 118, 46, 32, 121, 46, 32, 65, 118, 32, 65, 121, 32, 111, 118, 32, 118, 111, 32])), (.t 11), (.t 12)], none⟩]
@[simp] def f32r5 : List ROper := [
  ⟨some 7, .mv (.c (.int .i64 (.ofNat 1))), none⟩]
@[simp] def f32r6 : List ROper := [
  ⟨some 14, .mv (.t 7), none⟩,
  ⟨some 15, .mv (.t 2), none⟩,
  ⟨some 16, .bin .mul (.t 14) (.t 15), none⟩,
  ⟨some 17, .bin .quo (.t 16) (.c (.int .i64 (.ofNat 16))), none⟩,
  ⟨some 18, .un .neg (.t 17), none⟩,
  ⟨some 6, .mv (.t 18), none⟩]
def f32 : RFunc := ⟨[.t 6], (.seq (.region f32r0 [0, 1, 2]) (.seq (.region f32r1 [0, 1, 2, 7]) (.seq (.seq (.region f32r2 [0, 1, 2, 7, 10]) (.cond (.t 10) (.region f32r3 [0, 1, 2, 7]) .skip)) (.seq (.seq (.region f32r4 [2, 7, 13]) (.cond (.t 13) (.region f32r5 [2, 7]) .skip)) (.seq (.region f32r6 [6]) .ret))))), true⟩

/-! strings.IndexByte -/
@[simp] def f40r0 : List ROper := [
  ⟨some 4, .mv (.c (.int .i64 (.ofNat 0))), none⟩]
@[simp] def f40r1 : List ROper := [
  ⟨some 5, .mv (.t 0), none⟩,
  ⟨some 6, .mv (.t 1), none⟩,
  ⟨some 7, .call 61 [(.t 5), (.t 6)], none⟩,
  ⟨some 4, .mv (.t 7), none⟩]
def f40 : RFunc := ⟨[.t 4], (.seq (.region f40r0 [0, 1]) (.seq (.region f40r1 [4]) .ret)), true⟩

/-! quire/metric.spans -/
@[simp] def f41r0 : List ROper := [
  ⟨some 4, .mv (.c (.bool false)), none⟩]
@[simp] def f41r1 : List ROper := [
  ⟨some 7, .mv (.t 0), none⟩,
  ⟨some 8, .len .slice (.t 7), none⟩,
  ⟨some 9, .mv (.c (.int .i64 (.ofNat 0))), none⟩]
@[simp] def f41r2 : List ROper := [
  ⟨some 10, .bin .lss (.t 9) (.t 8), none⟩]
@[simp] def f41r3 : List ROper := [
  ⟨some 11, .iaddr 4 (.t 7) (.t 9), none⟩,
  ⟨some 12, .load 4 true (.t 11), none⟩,
  ⟨some 6, .alloc [(.int .i64 (.ofNat 0)), (.int .i64 (.ofNat 0)), (.int .i64 (.ofNat 0)), (.int .i64 (.ofNat 0))], none⟩,
  ⟨none, .store 4 (.t 6) (.t 12), none⟩]
@[simp] def f41r4 : List ROper := [
  ⟨some 13, .faddr 0 (.t 6), none⟩,
  ⟨some 14, .load 1 false (.t 13), none⟩,
  ⟨some 15, .bin .lss (.t 14) (.c (.int .i64 (.ofNat 1))), none⟩,
  ⟨some 16, .mv (.t 15), none⟩,
  ⟨some 17, .faddr 0 (.t 6), some (16, false)⟩,
  ⟨some 18, .load 1 false (.t 17), some (16, false)⟩,
  ⟨some 19, .mv (.t 1), some (16, false)⟩,
  ⟨some 20, .bin .gtr (.t 18) (.t 19), some (16, false)⟩,
  ⟨some 21, .pick (.t 16) (.c (.bool true)) (.t 20), none⟩,
  ⟨some 22, .mv (.t 21), none⟩,
  ⟨some 23, .faddr 1 (.t 6), some (22, false)⟩,
  ⟨some 24, .load 3 true (.t 23), some (22, false)⟩,
  ⟨some 25, .call 62 [(.t 24)], some (22, false)⟩,
  ⟨some 26, .un .not (.t 25), some (22, false)⟩,
  ⟨some 27, .pick (.t 22) (.c (.bool true)) (.t 26), none⟩]
@[simp] def f41r5 : List ROper := [
  ⟨some 4, .mv (.c (.bool false)), none⟩]
@[simp] def f41r6 : List ROper := [
  ⟨some 28, .mv (.t 1), none⟩,
  ⟨some 29, .faddr 0 (.t 6), none⟩,
  ⟨some 30, .load 1 false (.t 29), none⟩,
  ⟨some 31, .bin .sub (.t 28) (.t 30), none⟩,
  ⟨some 1, .mv (.t 31), none⟩]
@[simp] def f41r7 : List ROper := [
  ⟨some 32, .bin .add (.t 9) (.c (.int .i64 (.ofNat 1))), none⟩,
  ⟨some 9, .mv (.t 32), none⟩]
def f41B0 : RC := (.seq (.region f41r2 [1, 7, 8, 9, 10]) (.seq (.cond (.t 10) .skip (.exit 0)) (.seq (.block 1 (.seq (.region f41r3 [1, 6, 7, 8, 9]) (.seq (.seq (.region f41r4 [1, 6, 7, 8, 9, 27]) (.cond (.t 27) (.seq (.region f41r5 [4]) .ret) .skip)) (.region f41r6 [1, 7, 8, 9])))) (.region f41r7 [1, 7, 8, 9]))))
def f41L0 : RC := .loop [1, 7, 8, 9] f41B0
@[simp] def f41r8 : List ROper := [
  ⟨some 33, .mv (.t 1), none⟩,
  ⟨some 34, .bin .eql (.t 33) (.c (.int .i64 (.ofNat 0))), none⟩,
  ⟨some 4, .mv (.t 34), none⟩]
def f41 : RFunc := ⟨[.t 4], (.seq (.region f41r0 [0, 1]) (.seq (.seq (.region f41r1 [1, 7, 8, 9]) (.block 0 f41L0)) (.seq (.region f41r8 [4]) .ret))), true⟩

/-! quire/metric.props -/
@[simp] def f42r0 : List ROper := [
  ⟨some 1, .box 17 (.t 0), none⟩,
  ⟨some 2, .mv (.c (.bool false)), none⟩]
@[simp] def f42r1 : List ROper := [
  ⟨some 5, .faddr 0 (.t 1), none⟩,
  ⟨some 6, .load 1 false (.t 5), none⟩,
  ⟨some 7, .build [(.int .i64 (.ofNat 0)), (.int .i64 (.ofNat 0)), (.int .i64 (.ofNat 0))] [(0, 1, (.t 6)), (1, 1, (.c (.int .i64 (.ofNat 1)))), (2, 1, (.c (.int .i64 (.ofNat 64))))], none⟩,
  ⟨some 8, .faddr 1 (.t 1), none⟩,
  ⟨some 9, .load 1 false (.t 8), none⟩,
  ⟨some 10, .build [(.int .i64 (.ofNat 0)), (.int .i64 (.ofNat 0)), (.int .i64 (.ofNat 0))] [(0, 1, (.t 9)), (1, 1, (.c (.int .i64 (.ofNat 1)))), (2, 1, (.c (.int .i64 (.ofNat 255))))], none⟩,
  ⟨some 11, .faddr 2 (.t 1), none⟩,
  ⟨some 12, .load 1 false (.t 11), none⟩,
  ⟨some 13, .build [(.int .i64 (.ofNat 0)), (.int .i64 (.ofNat 0)), (.int .i64 (.ofNat 0))] [(0, 1, (.t 12)), (1, 1, (.c (.int .i64 (.ofNat 0)))), (2, 1, (.c (.int .i64 (.ofNat 3))))], none⟩,
  ⟨some 14, .faddr 3 (.t 1), none⟩,
  ⟨some 15, .load 1 false (.t 14), none⟩,
  ⟨some 16, .build [(.int .i64 (.ofNat 0)), (.int .i64 (.ofNat 0)), (.int .i64 (.ofNat 0))] [(0, 1, (.t 15)), (1, 1, (.c (.int .i64 (.ofNat 0)))), (2, 1, (.c (.int .i64 (.ofNat 255))))], none⟩,
  ⟨some 17, .faddr 4 (.t 1), none⟩,
  ⟨some 18, .load 1 false (.t 17), none⟩,
  ⟨some 19, .build [(.int .i64 (.ofNat 0)), (.int .i64 (.ofNat 0)), (.int .i64 (.ofNat 0))] [(0, 1, (.t 18)), (1, 1, (.c (.int .i64 (.ofNat 0)))), (2, 1, (.c (.int .i64 (.ofNat 255))))], none⟩,
  ⟨some 20, .faddr 5 (.t 1), none⟩,
  ⟨some 21, .load 1 false (.t 20), none⟩,
  ⟨some 22, .build [(.int .i64 (.ofNat 0)), (.int .i64 (.ofNat 0)), (.int .i64 (.ofNat 0))] [(0, 1, (.t 21)), (1, 1, (.c (.int .i64 (.ofNat 0)))), (2, 1, (.c (.int .i64 (.ofNat 255))))], none⟩,
  ⟨some 23, .faddr 6 (.t 1), none⟩,
  ⟨some 24, .load 1 false (.t 23), none⟩,
  ⟨some 25, .build [(.int .i64 (.ofNat 0)), (.int .i64 (.ofNat 0)), (.int .i64 (.ofNat 0))] [(0, 1, (.t 24)), (1, 1, (.c (.int .i64 (.ofNat 0)))), (2, 1, (.c (.int .i64 (.ofNat 255))))], none⟩,
  ⟨some 26, .faddr 7 (.t 1), none⟩,
  ⟨some 27, .load 1 false (.t 26), none⟩,
  ⟨some 28, .build [(.int .i64 (.ofNat 0)), (.int .i64 (.ofNat 0)), (.int .i64 (.ofNat 0))] [(0, 1, (.t 27)), (1, 1, (.c (.int .i64 (.ofNat 0)))), (2, 1, (.c (.int .i64 (.ofNat 255))))], none⟩,
  ⟨some 29, .faddr 8 (.t 1), none⟩,
  ⟨some 30, .load 1 false (.t 29), none⟩,
  ⟨some 31, .build [(.int .i64 (.ofNat 0)), (.int .i64 (.ofNat 0)), (.int .i64 (.ofNat 0))] [(0, 1, (.t 30)), (1, 1, (.c (.int .i64 (.ofNat 0)))), (2, 1, (.c (.int .i64 (.ofNat 1))))], none⟩,
  ⟨some 32, .faddr 9 (.t 1), none⟩,
  ⟨some 33, .load 1 false (.t 32), none⟩,
  ⟨some 34, .build [(.int .i64 (.ofNat 0)), (.int .i64 (.ofNat 0)), (.int .i64 (.ofNat 0))] [(0, 1, (.t 33)), (1, 1, (.c (.int .i64 (.ofNat 0)))), (2, 1, (.c (.int .i64 (.ofNat 1))))], none⟩,
  ⟨some 35, .faddr 10 (.t 1), none⟩,
  ⟨some 36, .load 1 false (.t 35), none⟩,
  ⟨some 37, .build [(.int .i64 (.ofNat 0)), (.int .i64 (.ofNat 0)), (.int .i64 (.ofNat 0))] [(0, 1, (.t 36)), (1, 1, (.c (.int .i64 (.ofNat 1)))), (2, 1, (.c (.int .i64 (.ofNat 4))))], none⟩,
  ⟨some 38, .faddr 11 (.t 1), none⟩,
  ⟨some 39, .load 1 false (.t 38), none⟩,
  ⟨some 40, .build [(.int .i64 (.ofNat 0)), (.int .i64 (.ofNat 0)), (.int .i64 (.ofNat 0))] [(0, 1, (.t 39)), (1, 1, (.c (.int .i64 (.ofNat 1)))), (2, 1, (.c (.int .i64 (.ofNat 4))))], none⟩,
  ⟨some 41, .faddr 12 (.t 1), none⟩,
  ⟨some 42, .load 1 false (.t 41), none⟩,
  ⟨some 43, .build [(.int .i64 (.ofNat 0)), (.int .i64 (.ofNat 0)), (.int .i64 (.ofNat 0))] [(0, 1, (.t 42)), (1, 1, (.c (.int .i64 (.ofNat 0)))), (2, 1, (.c (.int .i64 (.ofNat 1))))], none⟩,
  ⟨some 44, .faddr 13 (.t 1), none⟩,
  ⟨some 45, .load 1 false (.t 44), none⟩,
  ⟨some 46, .build [(.int .i64 (.ofNat 0)), (.int .i64 (.ofNat 0)), (.int .i64 (.ofNat 0))] [(0, 1, (.t 45)), (1, 1, (.c (.int .i64 (.ofNat 0)))), (2, 1, (.c (.int .i64 (.ofNat 1))))], none⟩,
  ⟨some 47, .faddr 14 (.t 1), none⟩,
  ⟨some 48, .load 1 false (.t 47), none⟩,
  ⟨some 49, .build [(.int .i64 (.ofNat 0)), (.int .i64 (.ofNat 0)), (.int .i64 (.ofNat 0))] [(0, 1, (.t 48)), (1, 1, (.c (.int .i64 (.ofNat 0)))), (2, 1, (.c (.int .i64 (.ofNat 4))))], none⟩,
  ⟨some 50, .faddr 15 (.t 1), none⟩,
  ⟨some 51, .load 1 false (.t 50), none⟩,
  ⟨some 52, .build [(.int .i64 (.ofNat 0)), (.int .i64 (.ofNat 0)), (.int .i64 (.ofNat 0))] [(0, 1, (.t 51)), (1, 1, (.c (.int .i64 (.ofNat 0)))), (2, 1, (.c (.int .i64 (.ofNat 8))))], none⟩,
  ⟨some 53, .faddr 16 (.t 1), none⟩,
  ⟨some 54, .load 1 false (.t 53), none⟩,
  ⟨some 55, .build [(.int .i64 (.ofNat 0)), (.int .i64 (.ofNat 0)), (.int .i64 (.ofNat 0))] [(0, 1, (.t 54)), (1, 1, (.c (.int .i64 (.ofNat 0)))), (2, 1, (.c (.int .i64 (.ofNat 3))))], none⟩,
  ⟨some 56, .build [(.int .i64 (.ofNat 0)), (.int .i64 (.ofNat 0)), (.int .i64 (.ofNat 0)), (.int .i64 (.ofNat 0)), (.int .i64 (.ofNat 0)), (.int .i64 (.ofNat 0)), (.int .i64 (.ofNat 0)), (.int .i64 (.ofNat 0)), (.int .i64 (.ofNat 0)), (.int .i64 (.ofNat 0)), (.int .i64 (.ofNat 0)), (.int .i64 (.ofNat 0)), (.int .i64 (.ofNat 0)), (.int .i64 (.ofNat 0)), (.int .i64 (.ofNat 0)), (.int .i64 (.ofNat 0)), (.int .i64 (.ofNat 0)), (.int .i64 (.ofNat 0)), (.int .i64 (.ofNat 0)), (.int .i64 (.ofNat 0)), (.int .i64 (.ofNat 0)), (.int .i64 (.ofNat 0)), (.int .i64 (.ofNat 0)), (.int .i64 (.ofNat 0)), (.int .i64 (.ofNat 0)), (.int .i64 (.ofNat 0)), (.int .i64 (.ofNat 0)), (.int .i64 (.ofNat 0)), (.int .i64 (.ofNat 0)), (.int .i64 (.ofNat 0)), (.int .i64 (.ofNat 0)), (.int .i64 (.ofNat 0)), (.int .i64 (.ofNat 0)), (.int .i64 (.ofNat 0)), (.int .i64 (.ofNat 0)), (.int .i64 (.ofNat 0)), (.int .i64 (.ofNat 0)), (.int .i64 (.ofNat 0)), (.int .i64 (.ofNat 0)), (.int .i64 (.ofNat 0)), (.int .i64 (.ofNat 0)), (.int .i64 (.ofNat 0)), (.int .i64 (.ofNat 0)), (.int .i64 (.ofNat 0)), (.int .i64 (.ofNat 0)), (.int .i64 (.ofNat 0)), (.int .i64 (.ofNat 0)), (.int .i64 (.ofNat 0)), (.int .i64 (.ofNat 0)), (.int .i64 (.ofNat 0)), (.int .i64 (.ofNat 0))] [(0, 3, (.t 7)), (3, 3, (.t 10)), (6, 3, (.t 13)), (9, 3, (.t 16)), (12, 3, (.t 19)), (15, 3, (.t 22)), (18, 3, (.t 25)), (21, 3, (.t 28)), (24, 3, (.t 31)), (27, 3, (.t 34)), (30, 3, (.t 37)), (33, 3, (.t 40)), (36, 3, (.t 43)), (39, 3, (.t 46)), (42, 3, (.t 49)), (45, 3, (.t 52)), (48, 3, (.t 55))], none⟩,
  ⟨some 57, .mv (.c (.int .i64 (.ofNat 0))), none⟩]
@[simp] def f42r2 : List ROper := [
  ⟨some 58, .bin .lss (.t 57) (.c (.int .i64 (.ofNat 17))), none⟩]
@[simp] def f42r3 : List ROper := [
  ⟨some 59, .indexA 3 true 17 (.t 56) (.t 57), none⟩,
  ⟨some 4, .alloc [(.int .i64 (.ofNat 0)), (.int .i64 (.ofNat 0)), (.int .i64 (.ofNat 0))], none⟩,
  ⟨none, .store 3 (.t 4) (.t 59), none⟩]
@[simp] def f42r4 : List ROper := [
  ⟨some 60, .faddr 0 (.t 4), none⟩,
  ⟨some 61, .load 1 false (.t 60), none⟩,
  ⟨some 62, .faddr 1 (.t 4), none⟩,
  ⟨some 63, .load 1 false (.t 62), none⟩,
  ⟨some 64, .bin .lss (.t 61) (.t 63), none⟩,
  ⟨some 65, .mv (.t 64), none⟩,
  ⟨some 66, .faddr 0 (.t 4), some (65, false)⟩,
  ⟨some 67, .load 1 false (.t 66), some (65, false)⟩,
  ⟨some 68, .faddr 2 (.t 4), some (65, false)⟩,
  ⟨some 69, .load 1 false (.t 68), some (65, false)⟩,
  ⟨some 70, .bin .gtr (.t 67) (.t 69), some (65, false)⟩,
  ⟨some 71, .pick (.t 65) (.c (.bool true)) (.t 70), none⟩]
@[simp] def f42r5 : List ROper := [
  ⟨some 2, .mv (.c (.bool false)), none⟩]
@[simp] def f42r6 : List ROper := [
  ⟨some 72, .bin .add (.t 57) (.c (.int .i64 (.ofNat 1))), none⟩,
  ⟨some 57, .mv (.t 72), none⟩]
def f42B0 : RC := (.seq (.region f42r2 [56, 57, 58]) (.seq (.cond (.t 58) .skip (.exit 0)) (.seq (.block 1 (.seq (.region f42r3 [4, 56, 57]) (.seq (.region f42r4 [56, 57, 71]) (.cond (.t 71) (.seq (.region f42r5 [2]) .ret) .skip)))) (.region f42r6 [56, 57]))))
def f42L0 : RC := .loop [56, 57] f42B0
@[simp] def f42r7 : List ROper := [
  ⟨some 2, .mv (.c (.bool true)), none⟩]
def f42 : RFunc := ⟨[.t 2], (.seq (.region f42r0 [1]) (.seq (.seq (.region f42r1 [56, 57]) (.block 0 f42L0)) (.seq (.region f42r7 [2]) .ret))), true⟩

/-! quire/metric.shown -/
@[simp] def f43r0 : List ROper := [
  ⟨some 4, .mv (.c (.bool false)), none⟩]
@[simp] def f43r1 : List ROper := [
  ⟨some 7, .mv (.t 0), none⟩,
  ⟨some 8, .s2b (.t 7), none⟩,
  ⟨some 9, .len .slice (.t 8), none⟩,
  ⟨some 10, .mv (.c (.int .i64 (.ofNat 0))), none⟩]
@[simp] def f43r2 : List ROper := [
  ⟨some 11, .bin .lss (.t 10) (.t 9), none⟩]
@[simp] def f43r3 : List ROper := [
  ⟨some 12, .iaddr 1 (.t 8) (.t 10), none⟩,
  ⟨some 13, .load 1 false (.t 12), none⟩,
  ⟨some 6, .mv (.t 13), none⟩]
@[simp] def f43r4 : List ROper := [
  ⟨some 14, .mv (.t 6), none⟩,
  ⟨some 15, .bin .leq (.t 14) (.c (.int .u8 (.ofNat 32))), none⟩,
  ⟨some 16, .mv (.t 15), none⟩,
  ⟨some 17, .mv (.t 6), some (16, false)⟩,
  ⟨some 18, .bin .gtr (.t 17) (.c (.int .u8 (.ofNat 126))), some (16, false)⟩,
  ⟨some 19, .pick (.t 16) (.c (.bool true)) (.t 18), none⟩]
@[simp] def f43r5 : List ROper := [
  ⟨some 4, .mv (.c (.bool false)), none⟩]
@[simp] def f43r6 : List ROper := [
  ⟨some 20, .bin .add (.t 10) (.c (.int .i64 (.ofNat 1))), none⟩,
  ⟨some 10, .mv (.t 20), none⟩]
def f43B0 : RC := (.seq (.region f43r2 [0, 1, 8, 9, 10, 11]) (.seq (.cond (.t 11) .skip (.exit 0)) (.seq (.block 1 (.seq (.region f43r3 [0, 1, 6, 8, 9, 10]) (.seq (.region f43r4 [0, 1, 8, 9, 10, 19]) (.cond (.t 19) (.seq (.region f43r5 [4]) .ret) .skip)))) (.region f43r6 [0, 1, 8, 9, 10]))))
def f43L0 : RC := .loop [0, 1, 8, 9, 10] f43B0
@[simp] def f43r7 : List ROper := [
  ⟨some 21, .mv (.t 0), none⟩,
  ⟨some 22, .len .str (.t 21), none⟩,
  ⟨some 23, .mv (.t 1), none⟩,
  ⟨some 24, .bin .leq (.t 22) (.t 23), none⟩,
  ⟨some 4, .mv (.t 24), none⟩]
def f43 : RFunc := ⟨[.t 4], (.seq (.region f43r0 [0, 1]) (.seq (.seq (.region f43r1 [0, 1, 8, 9, 10]) (.block 0 f43L0)) (.seq (.region f43r7 [4]) .ret))), true⟩

/-! strings.Count -/
@[simp] def f44r0 : List ROper := [
  ⟨some 4, .mv (.c (.int .i64 (.ofNat 0))), none⟩]
@[simp] def f44r1 : List ROper := [
  ⟨some 7, .mv (.t 1), none⟩,
  ⟨some 8, .len .str (.t 7), none⟩,
  ⟨some 9, .bin .eql (.t 8) (.c (.int .i64 (.ofNat 0))), none⟩]
@[simp] def f44r2 : List ROper := [
  ⟨some 10, .mv (.t 0), none⟩,
  ⟨some 11, .call 63 [(.t 10)], none⟩,
  ⟨some 12, .bin .add (.t 11) (.c (.int .i64 (.ofNat 1))), none⟩,
  ⟨some 4, .mv (.t 12), none⟩]
@[simp] def f44r3 : List ROper := [
  ⟨some 13, .mv (.t 1), none⟩,
  ⟨some 14, .len .str (.t 13), none⟩,
  ⟨some 15, .bin .eql (.t 14) (.c (.int .i64 (.ofNat 1))), none⟩]
@[simp] def f44r4 : List ROper := [
  ⟨some 16, .mv (.t 0), none⟩,
  ⟨some 17, .mv (.t 1), none⟩,
  ⟨some 18, .index (.t 17) (.c (.int .i64 (.ofNat 0))), none⟩,
  ⟨some 19, .call 64 [(.t 16), (.t 18)], none⟩,
  ⟨some 4, .mv (.t 19), none⟩]
@[simp] def f44r5 : List ROper := [
  ⟨some 5, .mv (.c (.int .i64 (.ofNat 0))), none⟩]
@[simp] def f44r6 : List ROper := [
  ⟨some 20, .mv (.t 0), none⟩,
  ⟨some 21, .mv (.t 1), none⟩,
  ⟨some 22, .call 65 [(.t 20), (.t 21)], none⟩,
  ⟨some 6, .mv (.t 22), none⟩]
@[simp] def f44r7 : List ROper := [
  ⟨some 23, .mv (.t 6), none⟩,
  ⟨some 24, .bin .eql (.t 23) (.c (.int .i64 (.negSucc 0))), none⟩]
@[simp] def f44r8 : List ROper := [
  ⟨some 25, .mv (.t 5), none⟩,
  ⟨some 4, .mv (.t 25), none⟩]
@[simp] def f44r9 : List ROper := [
  ⟨some 26, .mv (.t 5), none⟩,
  ⟨some 27, .bin .add (.t 26) (.c (.int .i64 (.ofNat 1))), none⟩,
  ⟨some 5, .mv (.t 27), none⟩]
@[simp] def f44r10 : List ROper := [
  ⟨some 28, .mv (.t 0), none⟩,
  ⟨some 29, .mv (.t 6), none⟩,
  ⟨some 30, .mv (.t 1), none⟩,
  ⟨some 31, .len .str (.t 30), none⟩,
  ⟨some 32, .bin .add (.t 29) (.t 31), none⟩,
  ⟨some 33, .slice true 1 (.t 28) (some (.t 32)) none none, none⟩,
  ⟨some 0, .mv (.t 33), none⟩]
def f44B0 : RC := (.block 1 (.seq (.region f44r6 [0, 1, 5, 6]) (.seq (.seq (.region f44r7 [0, 1, 5, 6, 24]) (.cond (.t 24) (.seq (.region f44r8 [4]) .ret) .skip)) (.seq (.region f44r9 [0, 1, 5, 6]) (.region f44r10 [0, 1, 5])))))
def f44L0 : RC := .loop [0, 1, 5] f44B0
def f44 : RFunc := ⟨[.t 4], (.seq (.region f44r0 [0, 1]) (.seq (.seq (.region f44r1 [0, 1, 9]) (.cond (.t 9) (.seq (.region f44r2 [4]) .ret) .skip)) (.seq (.seq (.region f44r3 [0, 1, 15]) (.cond (.t 15) (.seq (.region f44r4 [4]) .ret) .skip)) (.seq (.region f44r5 [0, 1, 5]) (.block 0 f44L0))))), true⟩

/-! quire/metric.sized -/
@[simp] def f51r0 : List ROper := [
  ⟨some 2, .mv (.c (.bool false)), none⟩]
@[simp] def f51r1 : List ROper := [
  ⟨some 3, .mv (.t 0), none⟩,
  ⟨some 4, .bin .geq (.t 3) (.c (.int .i64 (.ofNat 1))), none⟩,
  ⟨some 5, .mv (.t 4), none⟩,
  ⟨some 6, .mv (.t 0), some (5, true)⟩,
  ⟨some 7, .bin .leq (.t 6) (.c (.int .i64 (.ofNat 64))), some (5, true)⟩,
  ⟨some 8, .pick (.t 5) (.t 7) (.c (.bool false)), none⟩,
  ⟨some 2, .mv (.t 8), none⟩]
def f51 : RFunc := ⟨[.t 2], (.seq (.region f51r0 [0]) (.seq (.region f51r1 [2]) .ret)), true⟩

/-! quire/cluster.wrong -/
@[simp] def f54r0 : List ROper := [
  ⟨some 2, .mv (.c (.int .i64 (.ofNat 0))), none⟩]
@[simp] def f54r1 : List ROper := [
  ⟨some 5, .mv (.t 0), none⟩,
  ⟨some 6, .len .str (.t 5), none⟩,
  ⟨some 7, .bin .gtr (.t 6) (.c (.int .i64 (.ofNat 4096))), none⟩]
@[simp] def f54r2 : List ROper := [
  ⟨some 2, .mv (.c (.int .i64 (.ofNat 3))), none⟩]
@[simp] def f54r3 : List ROper := [
  ⟨some 8, .mv (.t 0), none⟩,
  ⟨some 9, .s2b (.t 8), none⟩,
  ⟨some 10, .len .slice (.t 9), none⟩,
  ⟨some 11, .mv (.c (.int .i64 (.ofNat 0))), none⟩]
@[simp] def f54r4 : List ROper := [
  ⟨some 12, .bin .lss (.t 11) (.t 10), none⟩]
@[simp] def f54r5 : List ROper := [
  ⟨some 13, .iaddr 1 (.t 9) (.t 11), none⟩,
  ⟨some 14, .load 1 false (.t 13), none⟩,
  ⟨some 4, .mv (.t 14), none⟩]
@[simp] def f54r6 : List ROper := [
  ⟨some 15, .mv (.t 4), none⟩,
  ⟨some 16, .call 68 [(.t 15)], none⟩,
  ⟨some 17, .bin .eql (.t 16) (.c (.int .i64 (.ofNat 0))), none⟩]
@[simp] def f54r7 : List ROper := [
  ⟨some 2, .mv (.c (.int .i64 (.ofNat 4))), none⟩]
@[simp] def f54r8 : List ROper := [
  ⟨some 18, .bin .add (.t 11) (.c (.int .i64 (.ofNat 1))), none⟩,
  ⟨some 11, .mv (.t 18), none⟩]
def f54B0 : RC := (.seq (.region f54r4 [9, 10, 11, 12]) (.seq (.cond (.t 12) .skip (.exit 0)) (.seq (.block 1 (.seq (.region f54r5 [4, 9, 10, 11]) (.seq (.region f54r6 [9, 10, 11, 17]) (.cond (.t 17) (.seq (.region f54r7 [2]) .ret) .skip)))) (.region f54r8 [9, 10, 11]))))
def f54L0 : RC := .loop [9, 10, 11] f54B0
@[simp] def f54r9 : List ROper := [
  ⟨some 2, .mv (.c (.int .i64 (.ofNat 0))), none⟩]
def f54 : RFunc := ⟨[.t 2], (.seq (.region f54r0 [0]) (.seq (.seq (.region f54r1 [0, 7]) (.cond (.t 7) (.seq (.region f54r2 [2]) .ret) .skip)) (.seq (.seq (.region f54r3 [9, 10, 11]) (.block 0 f54L0)) (.seq (.region f54r9 [2]) .ret)))), true⟩

/-! quire/cluster.each -/
@[simp] def f55r0 : List ROper := [
  ⟨some 1, .box 1 (.t 0), none⟩,
  ⟨some 2, .mv (.c .nilfn), none⟩]
@[simp] def f55r1 : List ROper := [
  ⟨some 3, .mkfn 69 [] [(.t 1)], none⟩,
  ⟨some 2, .mv (.t 3), none⟩]
def f55 : RFunc := ⟨[.t 2], (.seq (.region f55r0 [1]) (.seq (.region f55r1 [2]) .ret)), false⟩

/-! quire/metric.looks$1 -/
@[simp] def f56r0 : List ROper := [
  ⟨some 4, .alloc [(.int .i64 (.ofNat 0)), (.int .i64 (.ofNat 0)), (.int .i64 (.ofNat 0))], none⟩]
@[simp] def f56r1 : List ROper := [
  ⟨some 5, .load 1 false (.t 1), none⟩,
  ⟨some 6, .len .slice (.t 5), none⟩,
  ⟨some 7, .bin .gtr (.t 6) (.c (.int .i64 (.ofNat 1))), none⟩,
  ⟨some 8, .mv (.t 7), none⟩,
  ⟨some 9, .mv (.t 0), some (8, true)⟩,
  ⟨some 10, .load 1 false (.t 2), some (8, true)⟩,
  ⟨some 11, .bin .geq (.t 9) (.t 10), some (8, true)⟩,
  ⟨some 12, .pick (.t 8) (.t 11) (.c (.bool false)), none⟩]
@[simp] def f56r2 : List ROper := [
  ⟨some 13, .load 1 false (.t 1), none⟩,
  ⟨some 14, .slice false 4 (.t 13) (some (.c (.int .i64 (.ofNat 1)))) none none, none⟩,
  ⟨none, .store 1 (.t 1) (.t 14), none⟩]
@[simp] def f56r3 : List ROper := [
  ⟨some 15, .load 1 false (.t 2), none⟩,
  ⟨some 16, .load 1 false (.t 1), none⟩,
  ⟨some 17, .iaddr 4 (.t 16) (.c (.int .i64 (.ofNat 0))), none⟩,
  ⟨some 18, .faddr 0 (.t 17), none⟩,
  ⟨some 19, .load 1 false (.t 18), none⟩,
  ⟨some 20, .bin .add (.t 15) (.t 19), none⟩,
  ⟨none, .store 1 (.t 2) (.t 20), none⟩]
def f56B0 : RC := (.seq (.seq (.region f56r1 [0, 1, 2, 4, 12]) (.cond (.t 12) .skip (.exit 0))) (.block 1 (.seq (.region f56r2 [0, 1, 2, 4]) (.dregion f56r3 [] [] [0, 1, 2, 4]))))
def f56L0 : RC := .loop [0, 1, 2, 4] f56B0
@[simp] def f56r4 : List ROper := [
  ⟨some 21, .load 1 false (.t 1), none⟩,
  ⟨some 22, .iaddr 4 (.t 21) (.c (.int .i64 (.ofNat 0))), none⟩,
  ⟨some 23, .faddr 1 (.t 22), none⟩,
  ⟨some 24, .load 3 true (.t 23), none⟩,
  ⟨none, .store 3 (.t 4) (.t 24), none⟩]
def f56 : RFunc := ⟨[.cell 4 3 true], (.seq (.region f56r0 [0, 1, 2, 4]) (.seq (.block 0 f56L0) (.seq (.region f56r4 [4]) .ret))), false⟩

/-! quire/metric.paired -/
@[simp] def f57r0 : List ROper := [
  ⟨some 6, .mv (.c (.bool false)), none⟩]
@[simp] def f57r1 : List ROper := [
  ⟨some 7, .mv (.c (.int .i64 (.ofNat 0))), none⟩]
@[simp] def f57r2 : List ROper := [
  ⟨some 8, .mv (.t 7), none⟩,
  ⟨some 9, .bin .add (.t 8) (.c (.int .i64 (.ofNat 1))), none⟩,
  ⟨some 10, .mv (.t 0), none⟩,
  ⟨some 11, .len .str (.t 10), none⟩,
  ⟨some 12, .bin .lss (.t 9) (.t 11), none⟩]
@[simp] def f57r3 : List ROper := [
  ⟨some 15, .mv (.t 0), none⟩,
  ⟨some 16, .mv (.t 7), none⟩,
  ⟨some 17, .index (.t 15) (.t 16), none⟩,
  ⟨some 18, .mv (.t 1), none⟩,
  ⟨some 19, .bin .eql (.t 17) (.t 18), none⟩,
  ⟨some 20, .mv (.t 19), none⟩,
  ⟨some 21, .mv (.t 0), some (20, true)⟩,
  ⟨some 22, .mv (.t 7), some (20, true)⟩,
  ⟨some 23, .bin .add (.t 22) (.c (.int .i64 (.ofNat 1))), some (20, true)⟩,
  ⟨some 24, .index (.t 21) (.t 23), some (20, true)⟩,
  ⟨some 25, .mv (.t 2), some (20, true)⟩,
  ⟨some 26, .bin .eql (.t 24) (.t 25), some (20, true)⟩,
  ⟨some 27, .pick (.t 20) (.t 26) (.c (.bool false)), none⟩]
@[simp] def f57r4 : List ROper := [
  ⟨some 6, .mv (.c (.bool true)), none⟩]
@[simp] def f57r5 : List ROper := [
  ⟨some 13, .mv (.t 7), none⟩,
  ⟨some 14, .bin .add (.t 13) (.c (.int .i64 (.ofNat 3))), none⟩,
  ⟨some 7, .mv (.t 14), none⟩]
def f57B0 : RC := (.seq (.seq (.region f57r2 [0, 1, 2, 7, 12]) (.cond (.t 12) .skip (.exit 0))) (.seq (.block 1 (.seq (.region f57r3 [0, 1, 2, 7, 27]) (.cond (.t 27) (.seq (.region f57r4 [6]) .ret) .skip))) (.region f57r5 [0, 1, 2, 7])))
def f57L0 : RC := .loop [0, 1, 2, 7] f57B0
@[simp] def f57r6 : List ROper := [
  ⟨some 6, .mv (.c (.bool false)), none⟩]
def f57 : RFunc := ⟨[.t 6], (.seq (.region f57r0 [0, 1, 2]) (.seq (.seq (.region f57r1 [0, 1, 2, 7]) (.block 0 f57L0)) (.seq (.region f57r6 [6]) .ret))), true⟩

/-! internal/stringslite.IndexByte -/
@[simp] def f61r0 : List ROper := [
  ⟨some 4, .mv (.c (.int .i64 (.ofNat 0))), none⟩]
@[simp] def f61r1 : List ROper := [
  ⟨some 5, .mv (.t 0), none⟩,
  ⟨some 6, .mv (.t 1), none⟩,
  ⟨some 7, .call 72 [(.t 5), (.t 6)], none⟩,
  ⟨some 4, .mv (.t 7), none⟩]
def f61 : RFunc := ⟨[.t 4], (.seq (.region f61r0 [0, 1]) (.seq (.region f61r1 [4]) .ret)), true⟩

/-! quire/metric.look -/
@[simp] def f62r0 : List ROper := [
  ⟨some 1, .box 3 (.t 0), none⟩,
  ⟨some 2, .mv (.c (.bool false)), none⟩]
@[simp] def f62r1 : List ROper := [
  ⟨some 3, .faddr 0 (.t 1), none⟩,
  ⟨some 4, .load 1 false (.t 3), none⟩,
  ⟨some 5, .bin .geq (.t 4) (.c (.int .i64 (.ofNat 0))), none⟩,
  ⟨some 6, .mv (.t 5), none⟩,
  ⟨some 7, .faddr 0 (.t 1), some (6, true)⟩,
  ⟨some 8, .load 1 false (.t 7), some (6, true)⟩,
  ⟨some 9, .bin .leq (.t 8) (.c (.int .i64 (.ofNat 64))), some (6, true)⟩,
  ⟨some 10, .pick (.t 6) (.t 9) (.c (.bool false)), none⟩,
  ⟨some 11, .mv (.t 10), none⟩,
  ⟨some 12, .faddr 1 (.t 1), some (11, true)⟩,
  ⟨some 13, .load 1 false (.t 12), some (11, true)⟩,
  ⟨some 14, .bin .geq (.t 13) (.c (.int .i64 (.ofNat 0))), some (11, true)⟩,
  ⟨some 15, .pick (.t 11) (.t 14) (.c (.bool false)), none⟩,
  ⟨some 16, .mv (.t 15), none⟩,
  ⟨some 17, .faddr 1 (.t 1), some (16, true)⟩,
  ⟨some 18, .load 1 false (.t 17), some (16, true)⟩,
  ⟨some 19, .bin .leq (.t 18) (.c (.int .i64 (.ofNat 15))), some (16, true)⟩,
  ⟨some 20, .pick (.t 16) (.t 19) (.c (.bool false)), none⟩,
  ⟨some 21, .mv (.t 20), none⟩,
  ⟨some 22, .faddr 2 (.t 1), some (21, true)⟩,
  ⟨some 23, .load 1 false (.t 22), some (21, true)⟩,
  ⟨some 24, .bin .eql (.t 23) (.c (.int .i64 (.ofNat 0))), some (21, true)⟩,
  ⟨some 25, .mv (.t 24), some (21, true)⟩,
  ⟨some 26, .faddr 2 (.t 1), some (25, false)⟩,
  ⟨some 27, .load 1 false (.t 26), some (25, false)⟩,
  ⟨some 28, .bin .eql (.t 27) (.c (.int .i64 (.ofNat 1))), some (25, false)⟩,
  ⟨some 29, .pick (.t 25) (.c (.bool true)) (.t 28), some (21, true)⟩,
  ⟨some 30, .pick (.t 21) (.t 29) (.c (.bool false)), none⟩,
  ⟨some 2, .mv (.t 30), none⟩]
def f62 : RFunc := ⟨[.t 2], (.seq (.region f62r0 [1]) (.seq (.region f62r1 [2]) .ret)), true⟩

/-! unicode/utf8.RuneCountInString -/
@[simp] def f63r0 : List ROper := [
  ⟨some 2, .mv (.c (.int .i64 (.ofNat 0))), none⟩]
@[simp] def f63r1 : List ROper := [
  ⟨some 3, .mv (.t 0), none⟩,
  ⟨some 4, .fail, none⟩]
@[simp] def f63r2 : List ROper := [
  ⟨some 5, .fail, none⟩,
  ⟨some 6, .extract (.t 5) 0, none⟩]
@[simp] def f63r3 : List ROper := [
  ⟨some 7, .mv (.t 2), none⟩,
  ⟨some 8, .bin .add (.t 7) (.c (.int .i64 (.ofNat 1))), none⟩,
  ⟨some 2, .mv (.t 8), none⟩]
def f63B0 : RC := (.seq (.region f63r2 [2, 6]) (.seq (.cond (.t 6) .skip (.exit 0)) (.block 1 (.region f63r3 [2]))))
def f63L0 : RC := .loop [2] f63B0
@[simp] def f63r4 : List ROper := [
  ⟨some 9, .mv (.t 2), none⟩,
  ⟨some 2, .mv (.t 9), none⟩]
def f63 : RFunc := ⟨[.t 2], (.seq (.region f63r0 [0, 2]) (.seq (.seq (.region f63r1 [2]) (.block 0 f63L0)) (.seq (.region f63r4 [2]) .ret))), true⟩

/-! strings.Index -/
@[simp] def f65r0 : List ROper := [
  ⟨some 4, .mv (.c (.int .i64 (.ofNat 0))), none⟩]
@[simp] def f65r1 : List ROper := [
  ⟨some 5, .mv (.t 0), none⟩,
  ⟨some 6, .mv (.t 1), none⟩,
  ⟨some 7, .call 73 [(.t 5), (.t 6)], none⟩,
  ⟨some 4, .mv (.t 7), none⟩]
def f65 : RFunc := ⟨[.t 4], (.seq (.region f65r0 [0, 1]) (.seq (.region f65r1 [4]) .ret)), true⟩

/-! quire/cluster.kind -/
@[simp] def f68r0 : List ROper := [
  ⟨some 2, .mv (.c (.int .i64 (.ofNat 0))), none⟩]
@[simp] def f68r1 : List ROper := [
  ⟨some 4, .mv (.t 0), none⟩,
  ⟨some 5, .call 74 [(.t 4)], none⟩,
  ⟨some 3, .mv (.t 5), none⟩]
@[simp] def f68r2 : List ROper := [
  ⟨some 2, .mv (.c (.int .i64 (.ofNat 1))), none⟩]
@[simp] def f68r3 : List ROper := [
  ⟨some 7, .mv (.t 0), none⟩,
  ⟨some 8, .bin .eql (.t 7) (.c (.int .u8 (.ofNat 32))), none⟩,
  ⟨some 6, .mv (.t 8), none⟩]
@[simp] def f68r4 : List ROper := [
  ⟨some 2, .mv (.c (.int .i64 (.ofNat 3))), none⟩]
@[simp] def f68r5 : List ROper := [
  ⟨some 10, .mv (.t 0), none⟩,
  ⟨some 11, .bin .eql (.t 10) (.c (.int .u8 (.ofNat 9))), none⟩,
  ⟨some 9, .mv (.t 11), none⟩]
@[simp] def f68r6 : List ROper := [
  ⟨some 2, .mv (.c (.int .i64 (.ofNat 4))), none⟩]
@[simp] def f68r7 : List ROper := [
  ⟨some 13, .mv (.t 0), none⟩,
  ⟨some 14, .bin .eql (.t 13) (.c (.int .u8 (.ofNat 31))), none⟩,
  ⟨some 12, .mv (.t 14), none⟩]
@[simp] def f68r8 : List ROper := [
  ⟨some 2, .mv (.c (.int .i64 (.ofNat 5))), none⟩]
@[simp] def f68r9 : List ROper := [
  ⟨some 16, .mv (.t 0), none⟩,
  ⟨some 17, .bin .eql (.t 16) (.c (.int .u8 (.ofNat 1))), none⟩,
  ⟨some 15, .mv (.t 17), none⟩]
@[simp] def f68r10 : List ROper := [
  ⟨some 2, .mv (.c (.int .i64 (.ofNat 6))), none⟩]
@[simp] def f68r11 : List ROper := [
  ⟨some 19, .mv (.t 0), none⟩,
  ⟨some 20, .bin .eql (.t 19) (.c (.int .u8 (.ofNat 2))), none⟩,
  ⟨some 18, .mv (.t 20), none⟩]
@[simp] def f68r12 : List ROper := [
  ⟨some 2, .mv (.c (.int .i64 (.ofNat 7))), none⟩]
@[simp] def f68r13 : List ROper := [
  ⟨some 22, .mv (.t 0), none⟩,
  ⟨some 23, .bin .eql (.t 22) (.c (.int .u8 (.ofNat 3))), none⟩,
  ⟨some 21, .mv (.t 23), none⟩]
@[simp] def f68r14 : List ROper := [
  ⟨some 2, .mv (.c (.int .i64 (.ofNat 8))), none⟩]
@[simp] def f68r15 : List ROper := [
  ⟨some 25, .mv (.t 0), none⟩,
  ⟨some 26, .bin .gtr (.t 25) (.c (.int .u8 (.ofNat 32))), none⟩,
  ⟨some 27, .mv (.t 26), none⟩,
  ⟨some 28, .mv (.t 0), some (27, true)⟩,
  ⟨some 29, .bin .leq (.t 28) (.c (.int .u8 (.ofNat 126))), some (27, true)⟩,
  ⟨some 30, .pick (.t 27) (.t 29) (.c (.bool false)), none⟩,
  ⟨some 24, .mv (.t 30), none⟩]
@[simp] def f68r16 : List ROper := [
  ⟨some 2, .mv (.c (.int .i64 (.ofNat 2))), none⟩]
@[simp] def f68r17 : List ROper := [
  ⟨some 2, .mv (.c (.int .i64 (.ofNat 0))), none⟩]
def f68 : RFunc := ⟨[.t 2], (.seq (.region f68r0 [0]) (.seq (.block 0 (.seq (.region f68r1 [0, 3]) (.cond (.t 3) (.seq (.region f68r2 [2]) .ret) (.seq (.region f68r3 [0, 6]) (.cond (.t 6) (.seq (.region f68r4 [2]) .ret) (.seq (.region f68r5 [0, 9]) (.cond (.t 9) (.seq (.region f68r6 [2]) .ret) (.seq (.region f68r7 [0, 12]) (.cond (.t 12) (.seq (.region f68r8 [2]) .ret) (.seq (.region f68r9 [0, 15]) (.cond (.t 15) (.seq (.region f68r10 [2]) .ret) (.seq (.region f68r11 [0, 18]) (.cond (.t 18) (.seq (.region f68r12 [2]) .ret) (.seq (.region f68r13 [0, 21]) (.cond (.t 21) (.seq (.region f68r14 [2]) .ret) (.seq (.region f68r15 [24]) (.cond (.t 24) (.seq (.region f68r16 [2]) .ret) .skip))))))))))))))))) (.seq (.region f68r17 [2]) .ret))), true⟩

/-! quire/cluster.each$1 -/
@[simp] def f69r0 : List ROper := [
  ⟨some 3, .mv (.c (.int .i64 (.ofNat 0))), none⟩]
@[simp] def f69r1 : List ROper := [
  ⟨some 5, .mv (.t 3), none⟩,
  ⟨some 6, .load 1 false (.t 1), none⟩,
  ⟨some 7, .len .str (.t 6), none⟩,
  ⟨some 8, .bin .lss (.t 5) (.t 7), none⟩]
@[simp] def f69r2 : List ROper := [
  ⟨some 9, .mv (.t 3), none⟩,
  ⟨some 10, .mv (.t 3), none⟩,
  ⟨some 11, .bin .add (.t 10) (.c (.int .i64 (.ofNat 1))), none⟩,
  ⟨some 12, .load 1 false (.t 1), none⟩,
  ⟨some 13, .mv (.t 3), none⟩,
  ⟨some 14, .index (.t 12) (.t 13), none⟩,
  ⟨some 15, .call 68 [(.t 14)], none⟩,
  ⟨some 16, .build [(.int .i64 (.ofNat 0)), (.int .i64 (.ofNat 0)), (.int .i64 (.ofNat 0))] [(0, 1, (.t 9)), (1, 1, (.t 11)), (2, 1, (.t 15))], none⟩,
  ⟨some 4, .alloc [(.int .i64 (.ofNat 0)), (.int .i64 (.ofNat 0)), (.int .i64 (.ofNat 0))], none⟩,
  ⟨none, .store 3 (.t 4) (.t 16), none⟩]
@[simp] def f69r3 : List ROper := [
  ⟨some 17, .faddr 2 (.t 4), none⟩,
  ⟨some 18, .load 1 false (.t 17), none⟩,
  ⟨some 19, .bin .eql (.t 18) (.c (.int .i64 (.ofNat 1))), none⟩,
  ⟨some 20, .mv (.t 19), none⟩,
  ⟨some 21, .faddr 1 (.t 4), some (20, true)⟩,
  ⟨some 22, .load 1 false (.t 21), some (20, true)⟩,
  ⟨some 23, .load 1 false (.t 1), some (20, true)⟩,
  ⟨some 24, .len .str (.t 23), some (20, true)⟩,
  ⟨some 25, .bin .lss (.t 22) (.t 24), some (20, true)⟩,
  ⟨some 26, .pick (.t 20) (.t 25) (.c (.bool false)), none⟩,
  ⟨some 27, .mv (.t 26), none⟩,
  ⟨some 28, .faddr 1 (.t 4), some (27, true)⟩,
  ⟨some 29, .load 1 false (.t 28), some (27, true)⟩,
  ⟨some 30, .mv (.t 3), some (27, true)⟩,
  ⟨some 31, .bin .add (.t 30) (.c (.int .i64 (.ofNat 3))), some (27, true)⟩,
  ⟨some 32, .bin .lss (.t 29) (.t 31), some (27, true)⟩,
  ⟨some 33, .pick (.t 27) (.t 32) (.c (.bool false)), none⟩,
  ⟨some 34, .mv (.t 33), none⟩,
  ⟨some 35, .load 1 false (.t 1), some (34, true)⟩,
  ⟨some 36, .faddr 1 (.t 4), some (34, true)⟩,
  ⟨some 37, .load 1 false (.t 36), some (34, true)⟩,
  ⟨some 38, .index (.t 35) (.t 37), some (34, true)⟩,
  ⟨some 39, .call 70 [(.t 38)], some (34, true)⟩,
  ⟨some 40, .pick (.t 34) (.t 39) (.c (.bool false)), none⟩]
@[simp] def f69r4 : List ROper := [
  ⟨some 41, .faddr 1 (.t 4), none⟩,
  ⟨some 42, .load 1 false (.t 41), none⟩,
  ⟨some 43, .bin .add (.t 42) (.c (.int .i64 (.ofNat 1))), none⟩,
  ⟨some 44, .faddr 1 (.t 4), none⟩,
  ⟨none, .store 1 (.t 44) (.t 43), none⟩]
def f69B0 : RC := (.seq (.seq (.region f69r3 [0, 1, 3, 4, 40]) (.cond (.t 40) .skip (.exit 2))) (.block 3 (.region f69r4 [0, 1, 3, 4])))
def f69L0 : RC := .loop [0, 1, 3, 4] f69B0
@[simp] def f69r5 : List ROper := [
  ⟨some 45, .mv (.t 0), none⟩,
  ⟨some 46, .load 3 true (.t 4), none⟩,
  ⟨some 47, .callv (.t 45) [(.t 46)], none⟩,
  ⟨some 48, .un .not (.t 47), none⟩]
@[simp] def f69r6 : List ROper := [
  ⟨some 49, .faddr 1 (.t 4), none⟩,
  ⟨some 50, .load 1 false (.t 49), none⟩,
  ⟨some 3, .mv (.t 50), none⟩]
def f69B1 : RC := (.seq (.seq (.region f69r1 [0, 1, 3, 8]) (.cond (.t 8) .skip (.exit 0))) (.block 1 (.seq (.region f69r2 [0, 1, 3, 4]) (.seq (.block 2 f69L0) (.seq (.seq (.region f69r5 [0, 1, 4, 48]) (.cond (.t 48) .ret .skip)) (.region f69r6 [0, 1, 3]))))))
def f69L1 : RC := .loop [0, 1, 3] f69B1
def f69 : RFunc := ⟨[], (.seq (.region f69r0 [0, 1, 3]) (.block 0 f69L1)), false⟩

/-! quire/cluster.accent -/
@[simp] def f70r0 : List ROper := [
  ⟨some 2, .mv (.c (.bool false)), none⟩]
@[simp] def f70r1 : List ROper := [
  ⟨some 3, .mv (.t 0), none⟩,
  ⟨some 4, .bin .eql (.t 3) (.c (.int .u8 (.ofNat 94))), none⟩,
  ⟨some 5, .mv (.t 4), none⟩,
  ⟨some 6, .mv (.t 0), some (5, false)⟩,
  ⟨some 7, .bin .eql (.t 6) (.c (.int .u8 (.ofNat 96))), some (5, false)⟩,
  ⟨some 8, .pick (.t 5) (.c (.bool true)) (.t 7), none⟩,
  ⟨some 9, .mv (.t 8), none⟩,
  ⟨some 10, .mv (.t 0), some (9, false)⟩,
  ⟨some 11, .bin .eql (.t 10) (.c (.int .u8 (.ofNat 126))), some (9, false)⟩,
  ⟨some 12, .pick (.t 9) (.c (.bool true)) (.t 11), none⟩,
  ⟨some 2, .mv (.t 12), none⟩]
def f70 : RFunc := ⟨[.t 2], (.seq (.region f70r0 [0]) (.seq (.region f70r1 [2]) .ret)), true⟩

/-! internal/stringslite.Index -/
@[simp] def f73r0 : List ROper := [
  ⟨some 4, .mv (.c (.int .i64 (.ofNat 0))), none⟩]
@[simp] def f73r1 : List ROper := [
  ⟨some 14, .mv (.t 1), none⟩,
  ⟨some 15, .len .str (.t 14), none⟩,
  ⟨some 5, .mv (.t 15), none⟩]
@[simp] def f73r2 : List ROper := [
  ⟨some 17, .mv (.t 5), none⟩,
  ⟨some 18, .bin .eql (.t 17) (.c (.int .i64 (.ofNat 0))), none⟩,
  ⟨some 19, .mv (.t 18), none⟩,
  ⟨some 20, .mv (.t 1), some (19, false)⟩,
  ⟨some 21, .mv (.t 0), some (19, false)⟩,
  ⟨some 22, .bin .eql (.t 20) (.t 21), some (19, false)⟩,
  ⟨some 23, .pick (.t 19) (.c (.bool true)) (.t 22), none⟩,
  ⟨some 16, .mv (.t 23), none⟩]
@[simp] def f73r3 : List ROper := [
  ⟨some 4, .mv (.c (.int .i64 (.ofNat 0))), none⟩]
@[simp] def f73r4 : List ROper := [
  ⟨some 25, .mv (.t 5), none⟩,
  ⟨some 26, .bin .eql (.t 25) (.c (.int .i64 (.ofNat 1))), none⟩,
  ⟨some 24, .mv (.t 26), none⟩]
@[simp] def f73r5 : List ROper := [
  ⟨some 27, .mv (.t 0), none⟩,
  ⟨some 28, .mv (.t 1), none⟩,
  ⟨some 29, .index (.t 28) (.c (.int .i64 (.ofNat 0))), none⟩,
  ⟨some 30, .call 61 [(.t 27), (.t 29)], none⟩,
  ⟨some 4, .mv (.t 30), none⟩]
@[simp] def f73r6 : List ROper := [
  ⟨some 32, .mv (.t 5), none⟩,
  ⟨some 33, .mv (.t 0), none⟩,
  ⟨some 34, .len .str (.t 33), none⟩,
  ⟨some 35, .bin .geq (.t 32) (.t 34), none⟩,
  ⟨some 31, .mv (.t 35), none⟩]
@[simp] def f73r7 : List ROper := [
  ⟨some 4, .mv (.c (.int .i64 (.negSucc 0))), none⟩]
@[simp] def f73r8 : List ROper := [
  ⟨some 37, .mv (.t 5), none⟩,
  ⟨some 38, .fail, none⟩,
  ⟨some 39, .bin .leq (.t 37) (.t 38), none⟩,
  ⟨some 40, .mv (.t 39), none⟩,
  ⟨some 41, .mv (.t 0), some (40, true)⟩,
  ⟨some 42, .len .str (.t 41), some (40, true)⟩,
  ⟨some 43, .bin .leq (.t 42) (.c (.int .i64 (.ofNat 64))), some (40, true)⟩,
  ⟨some 44, .pick (.t 40) (.t 43) (.c (.bool false)), none⟩,
  ⟨some 36, .mv (.t 44), none⟩]
@[simp] def f73r9 : List ROper := [
  ⟨some 45, .mv (.t 0), none⟩,
  ⟨some 46, .mv (.t 1), none⟩,
  ⟨some 47, .call 75 [(.t 45), (.t 46)], none⟩,
  ⟨some 4, .mv (.t 47), none⟩]
@[simp] def f73r10 : List ROper := [
  ⟨some 48, .mv (.t 1), none⟩,
  ⟨some 49, .index (.t 48) (.c (.int .i64 (.ofNat 0))), none⟩,
  ⟨some 6, .mv (.t 49), none⟩]
@[simp] def f73r11 : List ROper := [
  ⟨some 50, .mv (.t 1), none⟩,
  ⟨some 51, .index (.t 50) (.c (.int .i64 (.ofNat 1))), none⟩,
  ⟨some 7, .mv (.t 51), none⟩]
@[simp] def f73r12 : List ROper := [
  ⟨some 8, .mv (.c (.int .i64 (.ofNat 0))), none⟩]
@[simp] def f73r13 : List ROper := [
  ⟨some 52, .mv (.t 0), none⟩,
  ⟨some 53, .len .str (.t 52), none⟩,
  ⟨some 54, .mv (.t 5), none⟩,
  ⟨some 55, .bin .sub (.t 53) (.t 54), none⟩,
  ⟨some 56, .bin .add (.t 55) (.c (.int .i64 (.ofNat 1))), none⟩,
  ⟨some 9, .mv (.t 56), none⟩]
@[simp] def f73r14 : List ROper := [
  ⟨some 10, .mv (.c (.int .i64 (.ofNat 0))), none⟩]
@[simp] def f73r15 : List ROper := [
  ⟨some 57, .mv (.t 8), none⟩,
  ⟨some 58, .mv (.t 9), none⟩,
  ⟨some 59, .bin .lss (.t 57) (.t 58), none⟩]
@[simp] def f73r16 : List ROper := [
  ⟨some 60, .mv (.t 0), none⟩,
  ⟨some 61, .mv (.t 8), none⟩,
  ⟨some 62, .index (.t 60) (.t 61), none⟩,
  ⟨some 63, .mv (.t 6), none⟩,
  ⟨some 64, .bin .neq (.t 62) (.t 63), none⟩]
@[simp] def f73r17 : List ROper := [
  ⟨some 65, .mv (.t 0), none⟩,
  ⟨some 66, .mv (.t 8), none⟩,
  ⟨some 67, .bin .add (.t 66) (.c (.int .i64 (.ofNat 1))), none⟩,
  ⟨some 68, .mv (.t 9), none⟩,
  ⟨some 69, .slice true 1 (.t 65) (some (.t 67)) (some (.t 68)) none, none⟩,
  ⟨some 70, .mv (.t 6), none⟩,
  ⟨some 71, .call 61 [(.t 69), (.t 70)], none⟩,
  ⟨some 11, .mv (.t 71), none⟩]
@[simp] def f73r18 : List ROper := [
  ⟨some 72, .mv (.t 11), none⟩,
  ⟨some 73, .bin .lss (.t 72) (.c (.int .i64 (.ofNat 0))), none⟩]
@[simp] def f73r19 : List ROper := [
  ⟨some 4, .mv (.c (.int .i64 (.negSucc 0))), none⟩]
@[simp] def f73r20 : List ROper := [
  ⟨some 74, .mv (.t 8), none⟩,
  ⟨some 75, .mv (.t 11), none⟩,
  ⟨some 76, .bin .add (.t 75) (.c (.int .i64 (.ofNat 1))), none⟩,
  ⟨some 77, .bin .add (.t 74) (.t 76), none⟩,
  ⟨some 8, .mv (.t 77), none⟩]
@[simp] def f73r21 : List ROper := [
  ⟨some 78, .mv (.t 0), none⟩,
  ⟨some 79, .mv (.t 8), none⟩,
  ⟨some 80, .bin .add (.t 79) (.c (.int .i64 (.ofNat 1))), none⟩,
  ⟨some 81, .index (.t 78) (.t 80), none⟩,
  ⟨some 82, .mv (.t 7), none⟩,
  ⟨some 83, .bin .eql (.t 81) (.t 82), none⟩,
  ⟨some 84, .mv (.t 83), none⟩,
  ⟨some 85, .mv (.t 0), some (84, true)⟩,
  ⟨some 86, .mv (.t 8), some (84, true)⟩,
  ⟨some 87, .mv (.t 8), some (84, true)⟩,
  ⟨some 88, .mv (.t 5), some (84, true)⟩,
  ⟨some 89, .bin .add (.t 87) (.t 88), some (84, true)⟩,
  ⟨some 90, .slice true 1 (.t 85) (some (.t 86)) (some (.t 89)) none, some (84, true)⟩,
  ⟨some 91, .mv (.t 1), some (84, true)⟩,
  ⟨some 92, .bin .eql (.t 90) (.t 91), some (84, true)⟩,
  ⟨some 93, .pick (.t 84) (.t 92) (.c (.bool false)), none⟩]
@[simp] def f73r22 : List ROper := [
  ⟨some 94, .mv (.t 8), none⟩,
  ⟨some 4, .mv (.t 94), none⟩]
@[simp] def f73r23 : List ROper := [
  ⟨some 95, .mv (.t 8), none⟩,
  ⟨some 96, .bin .add (.t 95) (.c (.int .i64 (.ofNat 1))), none⟩,
  ⟨some 8, .mv (.t 96), none⟩]
@[simp] def f73r24 : List ROper := [
  ⟨some 97, .mv (.t 10), none⟩,
  ⟨some 98, .bin .add (.t 97) (.c (.int .i64 (.ofNat 1))), none⟩,
  ⟨some 10, .mv (.t 98), none⟩]
@[simp] def f73r25 : List ROper := [
  ⟨some 99, .mv (.t 5), none⟩,
  ⟨some 100, .fail, none⟩,
  ⟨some 101, .bin .leq (.t 99) (.t 100), none⟩,
  ⟨some 102, .mv (.t 101), none⟩,
  ⟨some 103, .mv (.t 10), some (102, true)⟩,
  ⟨some 104, .mv (.t 8), some (102, true)⟩,
  ⟨some 105, .call 76 [(.t 104)], some (102, true)⟩,
  ⟨some 106, .bin .gtr (.t 103) (.t 105), some (102, true)⟩,
  ⟨some 107, .pick (.t 102) (.t 106) (.c (.bool false)), none⟩]
@[simp] def f73r26 : List ROper := [
  ⟨some 108, .mv (.t 0), none⟩,
  ⟨some 109, .mv (.t 8), none⟩,
  ⟨some 110, .slice true 1 (.t 108) (some (.t 109)) none none, none⟩,
  ⟨some 111, .mv (.t 1), none⟩,
  ⟨some 112, .call 75 [(.t 110), (.t 111)], none⟩,
  ⟨some 12, .mv (.t 112), none⟩]
@[simp] def f73r27 : List ROper := [
  ⟨some 113, .mv (.t 12), none⟩,
  ⟨some 114, .bin .geq (.t 113) (.c (.int .i64 (.ofNat 0))), none⟩]
@[simp] def f73r28 : List ROper := [
  ⟨some 115, .mv (.t 12), none⟩,
  ⟨some 116, .mv (.t 8), none⟩,
  ⟨some 117, .bin .add (.t 115) (.t 116), none⟩,
  ⟨some 4, .mv (.t 117), none⟩]
@[simp] def f73r29 : List ROper := [
  ⟨some 4, .mv (.c (.int .i64 (.negSucc 0))), none⟩]
@[simp] def f73r30 : List ROper := [
  ⟨some 118, .mv (.t 5), none⟩,
  ⟨some 119, .fail, none⟩,
  ⟨some 120, .bin .gtr (.t 118) (.t 119), none⟩,
  ⟨some 121, .mv (.t 120), none⟩,
  ⟨some 122, .mv (.t 10), some (121, true)⟩,
  ⟨some 123, .mv (.t 8), some (121, true)⟩,
  ⟨some 124, .bin .shr (.t 123) (.c (.int .u64 (.ofNat 4))), some (121, true)⟩,
  ⟨some 125, .bin .add (.c (.int .i64 (.ofNat 4))) (.t 124), some (121, true)⟩,
  ⟨some 126, .bin .geq (.t 122) (.t 125), some (121, true)⟩,
  ⟨some 127, .pick (.t 121) (.t 126) (.c (.bool false)), none⟩,
  ⟨some 128, .mv (.t 127), none⟩,
  ⟨some 129, .mv (.t 8), some (128, true)⟩,
  ⟨some 130, .mv (.t 9), some (128, true)⟩,
  ⟨some 131, .bin .lss (.t 129) (.t 130), some (128, true)⟩,
  ⟨some 132, .pick (.t 128) (.t 131) (.c (.bool false)), none⟩]
@[simp] def f73r31 : List ROper := [
  ⟨some 133, .mv (.t 0), none⟩,
  ⟨some 134, .mv (.t 8), none⟩,
  ⟨some 135, .slice true 1 (.t 133) (some (.t 134)) none none, none⟩,
  ⟨some 136, .mv (.t 1), none⟩,
  ⟨some 137, .call 77 [(.t 135), (.t 136)], none⟩,
  ⟨some 13, .mv (.t 137), none⟩]
@[simp] def f73r32 : List ROper := [
  ⟨some 138, .mv (.t 13), none⟩,
  ⟨some 139, .bin .lss (.t 138) (.c (.int .i64 (.ofNat 0))), none⟩]
@[simp] def f73r33 : List ROper := [
  ⟨some 4, .mv (.c (.int .i64 (.negSucc 0))), none⟩]
@[simp] def f73r34 : List ROper := [
  ⟨some 140, .mv (.t 8), none⟩,
  ⟨some 141, .mv (.t 13), none⟩,
  ⟨some 142, .bin .add (.t 140) (.t 141), none⟩,
  ⟨some 4, .mv (.t 142), none⟩]
def f73B0 : RC := (.seq (.seq (.region f73r15 [0, 1, 5, 6, 7, 8, 9, 10, 59]) (.cond (.t 59) .skip (.exit 1))) (.block 2 (.seq (.seq (.region f73r16 [0, 1, 5, 6, 7, 8, 9, 10, 64]) (.cond (.t 64) (.seq (.region f73r17 [0, 1, 5, 6, 7, 8, 9, 10, 11]) (.seq (.seq (.region f73r18 [0, 1, 5, 6, 7, 8, 9, 10, 11, 73]) (.cond (.t 73) (.seq (.region f73r19 [4]) .ret) .skip)) (.region f73r20 [0, 1, 5, 6, 7, 8, 9, 10]))) .skip)) (.seq (.seq (.region f73r21 [0, 1, 5, 6, 7, 8, 9, 10, 93]) (.cond (.t 93) (.seq (.region f73r22 [4]) .ret) .skip)) (.seq (.region f73r23 [0, 1, 5, 6, 7, 8, 9, 10]) (.seq (.region f73r24 [0, 1, 5, 6, 7, 8, 9, 10]) (.seq (.region f73r25 [0, 1, 5, 6, 7, 8, 9, 10, 107]) (.cond (.t 107) (.seq (.region f73r26 [8, 12]) (.seq (.seq (.region f73r27 [8, 12, 114]) (.cond (.t 114) (.seq (.region f73r28 [4]) .ret) .skip)) (.seq (.region f73r29 [4]) .ret))) (.seq (.region f73r30 [0, 1, 5, 6, 7, 8, 9, 10, 132]) (.cond (.t 132) (.seq (.region f73r31 [8, 13]) (.seq (.seq (.region f73r32 [8, 13, 139]) (.cond (.t 139) (.seq (.region f73r33 [4]) .ret) .skip)) (.seq (.region f73r34 [4]) .ret))) .skip))))))))))
def f73L0 : RC := .loop [0, 1, 5, 6, 7, 8, 9, 10] f73B0
@[simp] def f73r35 : List ROper := [
  ⟨some 4, .mv (.c (.int .i64 (.negSucc 0))), none⟩]
def f73 : RFunc := ⟨[.t 4], (.seq (.region f73r0 [0, 1]) (.seq (.region f73r1 [0, 1, 5]) (.seq (.block 0 (.seq (.region f73r2 [0, 1, 5, 16]) (.cond (.t 16) (.seq (.region f73r3 [4]) .ret) (.seq (.region f73r4 [0, 1, 5, 24]) (.cond (.t 24) (.seq (.region f73r5 [4]) .ret) (.seq (.region f73r6 [0, 1, 5, 31]) (.cond (.t 31) (.seq (.region f73r7 [4]) .ret) (.seq (.region f73r8 [0, 1, 5, 36]) (.cond (.t 36) (.seq (.region f73r9 [4]) .ret) .skip))))))))) (.seq (.region f73r10 [0, 1, 5, 6]) (.seq (.region f73r11 [0, 1, 5, 6, 7]) (.seq (.region f73r12 [0, 1, 5, 6, 7, 8]) (.seq (.region f73r13 [0, 1, 5, 6, 7, 8, 9]) (.seq (.region f73r14 [0, 1, 5, 6, 7, 8, 9, 10]) (.seq (.block 1 f73L0) (.seq (.region f73r35 [4]) .ret)))))))))), true⟩

/-! quire/cluster.letter -/
@[simp] def f74r0 : List ROper := [
  ⟨some 2, .mv (.c (.bool false)), none⟩]
@[simp] def f74r1 : List ROper := [
  ⟨some 3, .mv (.t 0), none⟩,
  ⟨some 4, .bin .geq (.t 3) (.c (.int .u8 (.ofNat 97))), none⟩,
  ⟨some 5, .mv (.t 4), none⟩,
  ⟨some 6, .mv (.t 0), some (5, true)⟩,
  ⟨some 7, .bin .leq (.t 6) (.c (.int .u8 (.ofNat 122))), some (5, true)⟩,
  ⟨some 8, .pick (.t 5) (.t 7) (.c (.bool false)), none⟩,
  ⟨some 9, .mv (.t 8), none⟩,
  ⟨some 10, .mv (.t 0), some (9, false)⟩,
  ⟨some 11, .bin .geq (.t 10) (.c (.int .u8 (.ofNat 65))), some (9, false)⟩,
  ⟨some 12, .mv (.t 11), some (9, false)⟩,
  ⟨some 13, .mv (.t 0), some (12, true)⟩,
  ⟨some 14, .bin .leq (.t 13) (.c (.int .u8 (.ofNat 90))), some (12, true)⟩,
  ⟨some 15, .pick (.t 12) (.t 14) (.c (.bool false)), some (9, false)⟩,
  ⟨some 16, .pick (.t 9) (.c (.bool true)) (.t 15), none⟩,
  ⟨some 2, .mv (.t 16), none⟩]
def f74 : RFunc := ⟨[.t 2], (.seq (.region f74r0 [0]) (.seq (.region f74r1 [2]) .ret)), true⟩

/-! internal/bytealg.Cutover -/
@[simp] def f76r0 : List ROper := [
  ⟨some 2, .mv (.c (.int .i64 (.ofNat 0))), none⟩]
@[simp] def f76r1 : List ROper := [
  ⟨some 3, .mv (.t 0), none⟩,
  ⟨some 4, .bin .add (.t 3) (.c (.int .i64 (.ofNat 16))), none⟩,
  ⟨some 5, .bin .quo (.t 4) (.c (.int .i64 (.ofNat 8))), none⟩,
  ⟨some 2, .mv (.t 5), none⟩]
def f76 : RFunc := ⟨[.t 2], (.seq (.region f76r0 [0]) (.seq (.region f76r1 [2]) .ret)), true⟩

/-! internal/bytealg.IndexRabinKarp[string] -/
@[simp] def f77r0 : List ROper := [
  ⟨some 4, .mv (.c (.int .i64 (.ofNat 0))), none⟩]
@[simp] def f77r1 : List ROper := [
  ⟨some 12, .mv (.t 1), none⟩,
  ⟨some 13, .call 78 [(.t 12)], none⟩,
  ⟨some 11, .mv (.t 13), none⟩,
  ⟨some 14, .extract (.t 11) 0, none⟩,
  ⟨some 15, .extract (.t 11) 1, none⟩,
  ⟨some 5, .mv (.t 14), none⟩,
  ⟨some 6, .mv (.t 15), none⟩]
@[simp] def f77r2 : List ROper := [
  ⟨some 16, .mv (.t 1), none⟩,
  ⟨some 17, .len .str (.t 16), none⟩,
  ⟨some 7, .mv (.t 17), none⟩]
@[simp] def f77r3 : List ROper := [
  ⟨some 8, .mv (.c (.int .u32 (.ofNat 0))), none⟩]
@[simp] def f77r4 : List ROper := [
  ⟨some 9, .mv (.c (.int .i64 (.ofNat 0))), none⟩]
@[simp] def f77r5 : List ROper := [
  ⟨some 18, .mv (.t 9), none⟩,
  ⟨some 19, .mv (.t 7), none⟩,
  ⟨some 20, .bin .lss (.t 18) (.t 19), none⟩]
@[simp] def f77r6 : List ROper := [
  ⟨some 23, .mv (.t 8), none⟩,
  ⟨some 24, .bin .mul (.t 23) (.c (.int .u32 (.ofNat 16777619))), none⟩,
  ⟨some 25, .mv (.t 0), none⟩,
  ⟨some 26, .mv (.t 9), none⟩,
  ⟨some 27, .index (.t 25) (.t 26), none⟩,
  ⟨some 28, .i2i .u32 (.t 27), none⟩,
  ⟨some 29, .bin .add (.t 24) (.t 28), none⟩,
  ⟨some 8, .mv (.t 29), none⟩]
@[simp] def f77r7 : List ROper := [
  ⟨some 21, .mv (.t 9), none⟩,
  ⟨some 22, .bin .add (.t 21) (.c (.int .i64 (.ofNat 1))), none⟩,
  ⟨some 9, .mv (.t 22), none⟩]
def f77B0 : RC := (.seq (.seq (.region f77r5 [0, 1, 5, 6, 7, 8, 9, 20]) (.cond (.t 20) .skip (.exit 0))) (.seq (.block 1 (.region f77r6 [0, 1, 5, 6, 7, 8, 9])) (.region f77r7 [0, 1, 5, 6, 7, 8, 9])))
def f77L0 : RC := .loop [0, 1, 5, 6, 7, 8, 9] f77B0
@[simp] def f77r8 : List ROper := [
  ⟨some 30, .mv (.t 8), none⟩,
  ⟨some 31, .mv (.t 5), none⟩,
  ⟨some 32, .bin .eql (.t 30) (.t 31), none⟩,
  ⟨some 33, .mv (.t 32), none⟩,
  ⟨some 34, .mv (.t 0), some (33, true)⟩,
  ⟨some 35, .mv (.t 7), some (33, true)⟩,
  ⟨some 36, .slice true 1 (.t 34) none (some (.t 35)) none, some (33, true)⟩,
  ⟨some 37, .mv (.t 1), some (33, true)⟩,
  ⟨some 38, .bin .eql (.t 36) (.t 37), some (33, true)⟩,
  ⟨some 39, .pick (.t 33) (.t 38) (.c (.bool false)), none⟩]
@[simp] def f77r9 : List ROper := [
  ⟨some 4, .mv (.c (.int .i64 (.ofNat 0))), none⟩]
@[simp] def f77r10 : List ROper := [
  ⟨some 40, .mv (.t 7), none⟩,
  ⟨some 10, .mv (.t 40), none⟩]
@[simp] def f77r11 : List ROper := [
  ⟨some 41, .mv (.t 10), none⟩,
  ⟨some 42, .mv (.t 0), none⟩,
  ⟨some 43, .len .str (.t 42), none⟩,
  ⟨some 44, .bin .lss (.t 41) (.t 43), none⟩]
@[simp] def f77r12 : List ROper := [
  ⟨some 45, .mv (.t 8), none⟩,
  ⟨some 46, .bin .mul (.t 45) (.c (.int .u32 (.ofNat 16777619))), none⟩,
  ⟨some 8, .mv (.t 46), none⟩]
@[simp] def f77r13 : List ROper := [
  ⟨some 47, .mv (.t 8), none⟩,
  ⟨some 48, .mv (.t 0), none⟩,
  ⟨some 49, .mv (.t 10), none⟩,
  ⟨some 50, .index (.t 48) (.t 49), none⟩,
  ⟨some 51, .i2i .u32 (.t 50), none⟩,
  ⟨some 52, .bin .add (.t 47) (.t 51), none⟩,
  ⟨some 8, .mv (.t 52), none⟩]
@[simp] def f77r14 : List ROper := [
  ⟨some 53, .mv (.t 8), none⟩,
  ⟨some 54, .mv (.t 6), none⟩,
  ⟨some 55, .mv (.t 0), none⟩,
  ⟨some 56, .mv (.t 10), none⟩,
  ⟨some 57, .mv (.t 7), none⟩,
  ⟨some 58, .bin .sub (.t 56) (.t 57), none⟩,
  ⟨some 59, .index (.t 55) (.t 58), none⟩,
  ⟨some 60, .i2i .u32 (.t 59), none⟩,
  ⟨some 61, .bin .mul (.t 54) (.t 60), none⟩,
  ⟨some 62, .bin .sub (.t 53) (.t 61), none⟩,
  ⟨some 8, .mv (.t 62), none⟩]
@[simp] def f77r15 : List ROper := [
  ⟨some 63, .mv (.t 10), none⟩,
  ⟨some 64, .bin .add (.t 63) (.c (.int .i64 (.ofNat 1))), none⟩,
  ⟨some 10, .mv (.t 64), none⟩]
@[simp] def f77r16 : List ROper := [
  ⟨some 65, .mv (.t 8), none⟩,
  ⟨some 66, .mv (.t 5), none⟩,
  ⟨some 67, .bin .eql (.t 65) (.t 66), none⟩,
  ⟨some 68, .mv (.t 67), none⟩,
  ⟨some 69, .mv (.t 0), some (68, true)⟩,
  ⟨some 70, .mv (.t 10), some (68, true)⟩,
  ⟨some 71, .mv (.t 7), some (68, true)⟩,
  ⟨some 72, .bin .sub (.t 70) (.t 71), some (68, true)⟩,
  ⟨some 73, .mv (.t 10), some (68, true)⟩,
  ⟨some 74, .slice true 1 (.t 69) (some (.t 72)) (some (.t 73)) none, some (68, true)⟩,
  ⟨some 75, .mv (.t 1), some (68, true)⟩,
  ⟨some 76, .bin .eql (.t 74) (.t 75), some (68, true)⟩,
  ⟨some 77, .pick (.t 68) (.t 76) (.c (.bool false)), none⟩]
@[simp] def f77r17 : List ROper := [
  ⟨some 78, .mv (.t 10), none⟩,
  ⟨some 79, .mv (.t 7), none⟩,
  ⟨some 80, .bin .sub (.t 78) (.t 79), none⟩,
  ⟨some 4, .mv (.t 80), none⟩]
def f77B1 : RC := (.seq (.seq (.region f77r11 [0, 1, 5, 6, 7, 8, 10, 44]) (.cond (.t 44) .skip (.exit 2))) (.block 3 (.seq (.region f77r12 [0, 1, 5, 6, 7, 8, 10]) (.seq (.region f77r13 [0, 1, 5, 6, 7, 8, 10]) (.seq (.region f77r14 [0, 1, 5, 6, 7, 8, 10]) (.seq (.region f77r15 [0, 1, 5, 6, 7, 8, 10]) (.seq (.region f77r16 [0, 1, 5, 6, 7, 8, 10, 77]) (.cond (.t 77) (.seq (.region f77r17 [4]) .ret) .skip))))))))
def f77L1 : RC := .loop [0, 1, 5, 6, 7, 8, 10] f77B1
@[simp] def f77r18 : List ROper := [
  ⟨some 4, .mv (.c (.int .i64 (.negSucc 0))), none⟩]
def f77 : RFunc := ⟨[.t 4], (.seq (.region f77r0 [0, 1]) (.seq (.region f77r1 [0, 1, 5, 6]) (.seq (.region f77r2 [0, 1, 5, 6, 7]) (.seq (.region f77r3 [0, 1, 5, 6, 7, 8]) (.seq (.seq (.region f77r4 [0, 1, 5, 6, 7, 8, 9]) (.block 0 f77L0)) (.seq (.seq (.region f77r8 [0, 1, 5, 6, 7, 8, 39]) (.cond (.t 39) (.seq (.region f77r9 [4]) .ret) .skip)) (.seq (.seq (.region f77r10 [0, 1, 5, 6, 7, 8, 10]) (.block 2 f77L1)) (.seq (.region f77r18 [4]) .ret)))))))), true⟩

/-! internal/bytealg.hashStr[string] -/
@[simp] def f78r0 : List ROper := [
  ⟨some 2, .mv (.c (.int .u32 (.ofNat 0))), none⟩,
  ⟨some 3, .mv (.c (.int .u32 (.ofNat 0))), none⟩]
@[simp] def f78r1 : List ROper := [
  ⟨some 4, .mv (.c (.int .u32 (.ofNat 0))), none⟩]
@[simp] def f78r2 : List ROper := [
  ⟨some 5, .mv (.c (.int .i64 (.ofNat 0))), none⟩]
@[simp] def f78r3 : List ROper := [
  ⟨some 9, .mv (.t 5), none⟩,
  ⟨some 10, .mv (.t 0), none⟩,
  ⟨some 11, .len .str (.t 10), none⟩,
  ⟨some 12, .bin .lss (.t 9) (.t 11), none⟩]
@[simp] def f78r4 : List ROper := [
  ⟨some 15, .mv (.t 4), none⟩,
  ⟨some 16, .bin .mul (.t 15) (.c (.int .u32 (.ofNat 16777619))), none⟩,
  ⟨some 17, .mv (.t 0), none⟩,
  ⟨some 18, .mv (.t 5), none⟩,
  ⟨some 19, .index (.t 17) (.t 18), none⟩,
  ⟨some 20, .i2i .u32 (.t 19), none⟩,
  ⟨some 21, .bin .add (.t 16) (.t 20), none⟩,
  ⟨some 4, .mv (.t 21), none⟩]
@[simp] def f78r5 : List ROper := [
  ⟨some 13, .mv (.t 5), none⟩,
  ⟨some 14, .bin .add (.t 13) (.c (.int .i64 (.ofNat 1))), none⟩,
  ⟨some 5, .mv (.t 14), none⟩]
def f78B0 : RC := (.seq (.seq (.region f78r3 [0, 4, 5, 12]) (.cond (.t 12) .skip (.exit 0))) (.seq (.block 1 (.region f78r4 [0, 4, 5])) (.region f78r5 [0, 4, 5])))
def f78L0 : RC := .loop [0, 4, 5] f78B0
@[simp] def f78r6 : List ROper := [
  ⟨some 6, .mv (.c (.int .u32 (.ofNat 1))), none⟩,
  ⟨some 7, .mv (.c (.int .u32 (.ofNat 16777619))), none⟩]
@[simp] def f78r7 : List ROper := [
  ⟨some 22, .mv (.t 0), none⟩,
  ⟨some 23, .len .str (.t 22), none⟩,
  ⟨some 8, .mv (.t 23), none⟩]
@[simp] def f78r8 : List ROper := [
  ⟨some 24, .mv (.t 8), none⟩,
  ⟨some 25, .bin .gtr (.t 24) (.c (.int .i64 (.ofNat 0))), none⟩]
@[simp] def f78r9 : List ROper := [
  ⟨some 28, .mv (.t 8), none⟩,
  ⟨some 29, .bin .and (.t 28) (.c (.int .i64 (.ofNat 1))), none⟩,
  ⟨some 30, .bin .neq (.t 29) (.c (.int .i64 (.ofNat 0))), none⟩]
@[simp] def f78r10 : List ROper := [
  ⟨some 31, .mv (.t 6), none⟩,
  ⟨some 32, .mv (.t 7), none⟩,
  ⟨some 33, .bin .mul (.t 31) (.t 32), none⟩,
  ⟨some 6, .mv (.t 33), none⟩]
@[simp] def f78r11 : List ROper := [
  ⟨some 34, .mv (.t 7), none⟩,
  ⟨some 35, .mv (.t 7), none⟩,
  ⟨some 36, .bin .mul (.t 34) (.t 35), none⟩,
  ⟨some 7, .mv (.t 36), none⟩]
@[simp] def f78r12 : List ROper := [
  ⟨some 26, .mv (.t 8), none⟩,
  ⟨some 27, .bin .shr (.t 26) (.c (.int .u64 (.ofNat 1))), none⟩,
  ⟨some 8, .mv (.t 27), none⟩]
def f78B1 : RC := (.seq (.seq (.region f78r8 [4, 6, 7, 8, 25]) (.cond (.t 25) .skip (.exit 2))) (.seq (.block 3 (.seq (.seq (.region f78r9 [4, 6, 7, 8, 30]) (.cond (.t 30) (.region f78r10 [4, 6, 7, 8]) .skip)) (.region f78r11 [4, 6, 7, 8]))) (.region f78r12 [4, 6, 7, 8])))
def f78L1 : RC := .loop [4, 6, 7, 8] f78B1
@[simp] def f78r13 : List ROper := [
  ⟨some 37, .mv (.t 4), none⟩,
  ⟨some 38, .mv (.t 6), none⟩,
  ⟨some 2, .mv (.t 37), none⟩,
  ⟨some 3, .mv (.t 38), none⟩]
def f78 : RFunc := ⟨[.t 2, .t 3], (.seq (.region f78r0 [0]) (.seq (.region f78r1 [0, 4]) (.seq (.seq (.region f78r2 [0, 4, 5]) (.block 0 f78L0)) (.seq (.region f78r6 [0, 4, 6, 7]) (.seq (.seq (.region f78r7 [4, 6, 7, 8]) (.block 2 f78L1)) (.seq (.region f78r13 [2, 3]) .ret)))))), true⟩

/-! quire/item.Items -/
@[simp] def f106r0 : List ROper := [
  ⟨some 1, .box 21 (.t 0), none⟩,
  ⟨some 2, .mv (.c (.list 0 0 .no false [])), none⟩,
  ⟨some 3, .mv (.c (.int .i64 (.ofNat 0))), none⟩]
@[simp] def f106r1 : List ROper := [
  ⟨some 9, .load 21 true (.t 1), none⟩,
  ⟨some 10, .call 117 [(.t 9)], none⟩,
  ⟨some 8, .mv (.t 10), none⟩,
  ⟨some 11, .extract (.t 8) 0, none⟩,
  ⟨some 12, .extract (.t 8) 1, none⟩,
  ⟨some 4, .mv (.t 11), none⟩,
  ⟨some 5, .mv (.t 12), none⟩]
@[simp] def f106r2 : List ROper := [
  ⟨some 13, .mv (.t 5), none⟩,
  ⟨some 14, .bin .neq (.t 13) (.c (.int .i64 (.ofNat 0))), none⟩]
@[simp] def f106r3 : List ROper := [
  ⟨some 15, .mv (.t 5), none⟩,
  ⟨some 2, .mv (.c (.list 0 0 .no false [])), none⟩,
  ⟨some 3, .mv (.t 15), none⟩]
@[simp] def f106r4 : List ROper := [
  ⟨some 6, .alloc [(.list 0 0 .no false [])], none⟩]
@[simp] def f106r5 : List ROper := [
  ⟨some 16, .load 21 true (.t 1), none⟩,
  ⟨some 17, .mv (.t 4), none⟩,
  ⟨some 18, .call 118 [(.t 16), (.t 17)], none⟩]
@[simp] def f106r6 : List ROper := [
  ⟨some 7, .alloc [(.int .i64 (.ofNat 0)), (.int .i64 (.ofNat 0)), (.int .i64 (.ofNat 0)), (.int .i64 (.ofNat 0)), (.int .i64 (.ofNat 0)), (.int .i64 (.ofNat 0)), (.int .i64 (.ofNat 0)), (.bool false)], none⟩,
  ⟨none, .store 8 (.t 7) (.t 19), none⟩]
@[simp] def f106r7 : List ROper := [
  ⟨some 20, .load 1 false (.t 6), none⟩,
  ⟨some 21, .load 8 true (.t 7), none⟩,
  ⟨some 22, .lit 8 true [(.int .i64 (.ofNat 0)), (.int .i64 (.ofNat 0)), (.int .i64 (.ofNat 0)), (.int .i64 (.ofNat 0)), (.int .i64 (.ofNat 0)), (.int .i64 (.ofNat 0)), (.int .i64 (.ofNat 0)), (.bool false)] 1 [(0, (.t 21))], none⟩,
  ⟨some 23, .append 8 true 64 (.t 20) (.t 22), none⟩,
  ⟨none, .store 1 (.t 6) (.t 23), none⟩]
@[simp] def f106r8 : List ROper := [
  ⟨some 24, .load 1 false (.t 6), none⟩,
  ⟨some 2, .mv (.t 24), none⟩,
  ⟨some 3, .mv (.c (.int .i64 (.ofNat 0))), none⟩]
def f106 : RFunc := ⟨[.t 2, .t 3], (.seq (.region f106r0 [1]) (.seq (.region f106r1 [1, 4, 5]) (.seq (.seq (.region f106r2 [1, 4, 5, 14]) (.cond (.t 14) (.seq (.region f106r3 [2, 3]) .ret) .skip)) (.seq (.region f106r4 [1, 4, 6]) (.seq (.seq (.region f106r5 [6, 18]) (.block 0 (.rfunc (.t 18) [19] (.region f106r6 [6, 7]) (.block 1 (.region f106r7 [])) [6, 18]))) (.seq (.region f106r8 [2, 3]) .ret)))))), true⟩

/-! quire/item.Leaps -/
@[simp] def f108r0 : List ROper := [
  ⟨some 2, .mv (.c (.bool false)), none⟩]
@[simp] def f108r1 : List ROper := [
  ⟨some 5, .mv (.t 0), none⟩,
  ⟨some 6, .len .slice (.t 5), none⟩,
  ⟨some 7, .mv (.c (.int .i64 (.ofNat 0))), none⟩]
@[simp] def f108r2 : List ROper := [
  ⟨some 8, .bin .lss (.t 7) (.t 6), none⟩]
@[simp] def f108r3 : List ROper := [
  ⟨some 9, .iaddr 8 (.t 5) (.t 7), none⟩,
  ⟨some 10, .load 8 true (.t 9), none⟩,
  ⟨some 4, .alloc [(.int .i64 (.ofNat 0)), (.int .i64 (.ofNat 0)), (.int .i64 (.ofNat 0)), (.int .i64 (.ofNat 0)), (.int .i64 (.ofNat 0)), (.int .i64 (.ofNat 0)), (.int .i64 (.ofNat 0)), (.bool false)], none⟩,
  ⟨none, .store 8 (.t 4) (.t 10), none⟩]
@[simp] def f108r4 : List ROper := [
  ⟨some 11, .faddr 0 (.t 4), none⟩,
  ⟨some 12, .load 1 false (.t 11), none⟩,
  ⟨some 13, .bin .eql (.t 12) (.c (.int .i64 (.ofNat 4))), none⟩]
@[simp] def f108r5 : List ROper := [
  ⟨some 2, .mv (.c (.bool true)), none⟩]
@[simp] def f108r6 : List ROper := [
  ⟨some 14, .bin .add (.t 7) (.c (.int .i64 (.ofNat 1))), none⟩,
  ⟨some 7, .mv (.t 14), none⟩]
def f108B0 : RC := (.seq (.region f108r2 [5, 6, 7, 8]) (.seq (.cond (.t 8) .skip (.exit 0)) (.seq (.block 1 (.seq (.region f108r3 [4, 5, 6, 7]) (.seq (.region f108r4 [5, 6, 7, 13]) (.cond (.t 13) (.seq (.region f108r5 [2]) .ret) .skip)))) (.region f108r6 [5, 6, 7]))))
def f108L0 : RC := .loop [5, 6, 7] f108B0
@[simp] def f108r7 : List ROper := [
  ⟨some 2, .mv (.c (.bool false)), none⟩]
def f108 : RFunc := ⟨[.t 2], (.seq (.region f108r0 [0]) (.seq (.seq (.region f108r1 [5, 6, 7]) (.block 0 f108L0)) (.seq (.region f108r7 [2]) .ret))), true⟩

/-! quire/item.Check -/
@[simp] def f109r0 : List ROper := [
  ⟨some 2, .mv (.c (.int .i64 (.ofNat 0))), none⟩]
@[simp] def f109r1 : List ROper := [
  ⟨some 5, .mv (.t 0), none⟩,
  ⟨some 6, .len .slice (.t 5), none⟩,
  ⟨some 7, .bin .gtr (.t 6) (.c (.int .i64 (.ofNat 8192))), none⟩]
@[simp] def f109r2 : List ROper := [
  ⟨some 2, .mv (.c (.int .i64 (.ofNat 3))), none⟩]
@[simp] def f109r3 : List ROper := [
  ⟨some 8, .mv (.t 0), none⟩,
  ⟨some 9, .len .slice (.t 8), none⟩,
  ⟨some 10, .mv (.c (.int .i64 (.ofNat 0))), none⟩]
@[simp] def f109r4 : List ROper := [
  ⟨some 11, .bin .lss (.t 10) (.t 9), none⟩]
@[simp] def f109r5 : List ROper := [
  ⟨some 12, .iaddr 8 (.t 8) (.t 10), none⟩,
  ⟨some 13, .load 8 true (.t 12), none⟩,
  ⟨some 4, .alloc [(.int .i64 (.ofNat 0)), (.int .i64 (.ofNat 0)), (.int .i64 (.ofNat 0)), (.int .i64 (.ofNat 0)), (.int .i64 (.ofNat 0)), (.int .i64 (.ofNat 0)), (.int .i64 (.ofNat 0)), (.bool false)], none⟩,
  ⟨none, .store 8 (.t 4) (.t 13), none⟩]
@[simp] def f109r6 : List ROper := [
  ⟨some 14, .load 8 true (.t 4), none⟩,
  ⟨some 15, .call 120 [(.t 14)], none⟩]
@[simp] def f109r7 : List ROper := [
  ⟨some 2, .mv (.c (.int .i64 (.ofNat 2))), none⟩]
@[simp] def f109r8 : List ROper := [
  ⟨some 16, .bin .add (.t 10) (.c (.int .i64 (.ofNat 1))), none⟩,
  ⟨some 10, .mv (.t 16), none⟩]
def f109B0 : RC := (.seq (.region f109r4 [8, 9, 10, 11]) (.seq (.cond (.t 11) .skip (.exit 0)) (.seq (.block 1 (.seq (.region f109r5 [4, 8, 9, 10]) (.seq (.region f109r6 [8, 9, 10, 15]) (.cond (.t 15) (.seq (.region f109r7 [2]) .ret) .skip)))) (.region f109r8 [8, 9, 10]))))
def f109L0 : RC := .loop [8, 9, 10] f109B0
@[simp] def f109r9 : List ROper := [
  ⟨some 2, .mv (.c (.int .i64 (.ofNat 0))), none⟩]
def f109 : RFunc := ⟨[.t 2], (.seq (.region f109r0 [0]) (.seq (.seq (.region f109r1 [0, 7]) (.cond (.t 7) (.seq (.region f109r2 [2]) .ret) .skip)) (.seq (.seq (.region f109r3 [8, 9, 10]) (.block 0 f109L0)) (.seq (.region f109r9 [2]) .ret)))), true⟩

/-! quire/item.Width -/
@[simp] def f110r0 : List ROper := [
  ⟨some 8, .mv (.c (.int .i64 (.ofNat 0))), none⟩,
  ⟨some 9, .mv (.c (.int .i64 (.ofNat 0))), none⟩]
@[simp] def f110r1 : List ROper := [
  ⟨some 14, .mv (.t 0), none⟩,
  ⟨some 15, .mv (.t 1), none⟩,
  ⟨some 16, .mv (.t 2), none⟩,
  ⟨some 17, .call 121 [(.t 14), (.t 15), (.t 16)], none⟩,
  ⟨some 10, .mv (.t 17), none⟩]
@[simp] def f110r2 : List ROper := [
  ⟨some 18, .mv (.t 10), none⟩,
  ⟨some 19, .bin .neq (.t 18) (.c (.int .i64 (.ofNat 0))), none⟩]
@[simp] def f110r3 : List ROper := [
  ⟨some 20, .mv (.t 10), none⟩,
  ⟨some 8, .mv (.c (.int .i64 (.ofNat 0))), none⟩,
  ⟨some 9, .mv (.t 20), none⟩]
@[simp] def f110r4 : List ROper := [
  ⟨some 21, .mv (.t 3), none⟩,
  ⟨some 22, .call 122 [(.t 21)], none⟩,
  ⟨some 23, .un .not (.t 22), none⟩]
@[simp] def f110r5 : List ROper := [
  ⟨some 8, .mv (.c (.int .i64 (.ofNat 0))), none⟩,
  ⟨some 9, .mv (.c (.int .i64 (.ofNat 5))), none⟩]
@[simp] def f110r6 : List ROper := [
  ⟨some 24, .mv (.t 3), none⟩,
  ⟨some 11, .mv (.t 24), none⟩]
@[simp] def f110r7 : List ROper := [
  ⟨some 25, .mv (.t 0), none⟩,
  ⟨some 26, .mv (.t 1), none⟩,
  ⟨some 27, .mv (.t 2), none⟩,
  ⟨some 28, .call 123 [(.t 25), (.t 26), (.t 27)], none⟩,
  ⟨some 29, .len .slice (.t 28), none⟩,
  ⟨some 30, .mv (.c (.int .i64 (.ofNat 0))), none⟩]
@[simp] def f110r8 : List ROper := [
  ⟨some 31, .bin .lss (.t 30) (.t 29), none⟩]
@[simp] def f110r9 : List ROper := [
  ⟨some 32, .iaddr 8 (.t 28) (.t 30), none⟩,
  ⟨some 33, .load 8 true (.t 32), none⟩,
  ⟨some 13, .alloc [(.int .i64 (.ofNat 0)), (.int .i64 (.ofNat 0)), (.int .i64 (.ofNat 0)), (.int .i64 (.ofNat 0)), (.int .i64 (.ofNat 0)), (.int .i64 (.ofNat 0)), (.int .i64 (.ofNat 0)), (.bool false)], none⟩,
  ⟨none, .store 8 (.t 13) (.t 33), none⟩]
@[simp] def f110r10 : List ROper := [
  ⟨some 34, .faddr 0 (.t 13), none⟩,
  ⟨some 35, .load 1 false (.t 34), none⟩]
@[simp] def f110r11 : List ROper := [
  ⟨some 37, .bin .eql (.t 35) (.c (.int .i64 (.ofNat 1))), none⟩,
  ⟨some 36, .mv (.t 37), none⟩]
@[simp] def f110r12 : List ROper := [
  ⟨some 38, .bin .eql (.t 35) (.c (.int .i64 (.ofNat 2))), none⟩,
  ⟨some 36, .mv (.t 38), none⟩]
@[simp] def f110r13 : List ROper := [
  ⟨some 39, .mv (.t 11), none⟩,
  ⟨some 40, .faddr 3 (.t 13), none⟩,
  ⟨some 41, .load 1 false (.t 40), none⟩,
  ⟨some 42, .bin .add (.t 39) (.t 41), none⟩,
  ⟨some 11, .mv (.t 42), none⟩]
@[simp] def f110r14 : List ROper := [
  ⟨some 44, .bin .eql (.t 35) (.c (.int .i64 (.ofNat 4))), none⟩,
  ⟨some 43, .mv (.t 44), none⟩]
@[simp] def f110r15 : List ROper := [
  ⟨some 45, .mv (.t 11), none⟩,
  ⟨some 46, .call 124 [(.t 45)], none⟩,
  ⟨some 11, .mv (.t 46), none⟩]
@[simp] def f110r16 : List ROper := [
  ⟨some 47, .bin .add (.t 30) (.c (.int .i64 (.ofNat 1))), none⟩,
  ⟨some 30, .mv (.t 47), none⟩]
def f110B0 : RC := (.seq (.region f110r8 [0, 2, 3, 11, 28, 29, 30, 31]) (.seq (.cond (.t 31) .skip (.exit 0)) (.seq (.block 1 (.seq (.region f110r9 [0, 2, 3, 11, 13, 28, 29, 30]) (.seq (.region f110r10 [0, 2, 3, 11, 13, 28, 29, 30, 35]) (.block 2 (.seq (.seq (.region f110r11 [0, 2, 3, 11, 13, 28, 29, 30, 35, 36]) (.cond (.t 36) .skip (.region f110r12 [0, 2, 3, 11, 13, 28, 29, 30, 35, 36]))) (.cond (.t 36) (.region f110r13 [0, 2, 3, 11, 28, 29, 30]) (.seq (.region f110r14 [0, 2, 3, 11, 28, 29, 30, 43]) (.cond (.t 43) (.region f110r15 [0, 2, 3, 11, 28, 29, 30]) .skip)))))))) (.region f110r16 [0, 2, 3, 11, 28, 29, 30]))))
def f110L0 : RC := .loop [0, 2, 3, 11, 28, 29, 30] f110B0
@[simp] def f110r17 : List ROper := [
  ⟨some 48, .mv (.t 2), none⟩,
  ⟨some 49, .mv (.t 0), none⟩,
  ⟨some 50, .len .slice (.t 49), none⟩,
  ⟨some 51, .bin .lss (.t 48) (.t 50), none⟩,
  ⟨some 52, .mv (.t 51), none⟩,
  ⟨some 53, .mv (.t 0), some (52, true)⟩,
  ⟨some 54, .mv (.t 2), some (52, true)⟩,
  ⟨some 55, .iaddr 8 (.t 53) (.t 54), some (52, true)⟩,
  ⟨some 56, .faddr 0 (.t 55), some (52, true)⟩,
  ⟨some 57, .load 1 false (.t 56), some (52, true)⟩,
  ⟨some 58, .bin .eql (.t 57) (.c (.int .i64 (.ofNat 3))), some (52, true)⟩,
  ⟨some 59, .pick (.t 52) (.t 58) (.c (.bool false)), none⟩]
@[simp] def f110r18 : List ROper := [
  ⟨some 60, .mv (.t 11), none⟩,
  ⟨some 61, .mv (.t 0), none⟩,
  ⟨some 62, .mv (.t 2), none⟩,
  ⟨some 63, .iaddr 8 (.t 61) (.t 62), none⟩,
  ⟨some 64, .faddr 3 (.t 63), none⟩,
  ⟨some 65, .load 1 false (.t 64), none⟩,
  ⟨some 66, .bin .add (.t 60) (.t 65), none⟩,
  ⟨some 11, .mv (.t 66), none⟩]
@[simp] def f110r19 : List ROper := [
  ⟨some 67, .mv (.t 11), none⟩,
  ⟨some 68, .mv (.t 3), none⟩,
  ⟨some 69, .bin .sub (.t 67) (.t 68), none⟩,
  ⟨some 8, .mv (.t 69), none⟩,
  ⟨some 9, .mv (.c (.int .i64 (.ofNat 0))), none⟩]
def f110 : RFunc := ⟨[.t 8, .t 9], (.seq (.region f110r0 [0, 1, 2, 3]) (.seq (.seq (.region f110r1 [0, 1, 2, 3, 10]) (.seq (.region f110r2 [0, 1, 2, 3, 10, 19]) (.cond (.t 19) (.seq (.region f110r3 [8, 9]) .ret) .skip))) (.seq (.seq (.region f110r4 [0, 1, 2, 3, 23]) (.cond (.t 23) (.seq (.region f110r5 [8, 9]) .ret) .skip)) (.seq (.region f110r6 [0, 1, 2, 3, 11]) (.seq (.seq (.region f110r7 [0, 2, 3, 11, 28, 29, 30]) (.block 0 f110L0)) (.seq (.seq (.region f110r17 [0, 2, 3, 11, 59]) (.cond (.t 59) (.region f110r18 [3, 11]) .skip)) (.seq (.region f110r19 [8, 9]) .ret))))))), true⟩

/-! quire/first.Break -/
@[simp] def f113r0 : List ROper := [
  ⟨some 4, .box 1 (.t 1), none⟩,
  ⟨some 5, .box 2 (.t 2), none⟩,
  ⟨some 6, .mv (.c (.list 0 0 .no false [])), none⟩,
  ⟨some 7, .mv (.c (.int .i64 (.ofNat 0))), none⟩]
@[simp] def f113r1 : List ROper := [
  ⟨some 12, .mv (.t 0), none⟩,
  ⟨some 13, .call 109 [(.t 12)], none⟩,
  ⟨some 8, .mv (.t 13), none⟩]
@[simp] def f113r2 : List ROper := [
  ⟨some 14, .mv (.t 8), none⟩,
  ⟨some 15, .bin .neq (.t 14) (.c (.int .i64 (.ofNat 0))), none⟩]
@[simp] def f113r3 : List ROper := [
  ⟨some 16, .mv (.t 8), none⟩,
  ⟨some 6, .mv (.c (.list 0 0 .no false [])), none⟩,
  ⟨some 7, .mv (.t 16), none⟩]
@[simp] def f113r4 : List ROper := [
  ⟨some 17, .load 1 false (.t 4), none⟩,
  ⟨some 18, .load 2 true (.t 5), none⟩,
  ⟨some 19, .call 126 [(.t 17), (.t 18)], none⟩,
  ⟨some 9, .mv (.t 19), none⟩]
@[simp] def f113r5 : List ROper := [
  ⟨some 20, .mv (.t 9), none⟩,
  ⟨some 21, .bin .neq (.t 20) (.c (.int .i64 (.ofNat 0))), none⟩]
@[simp] def f113r6 : List ROper := [
  ⟨some 22, .mv (.t 9), none⟩,
  ⟨some 6, .mv (.c (.list 0 0 .no false [])), none⟩,
  ⟨some 7, .mv (.t 22), none⟩]
@[simp] def f113r7 : List ROper := [
  ⟨some 23, .mv (.t 0), none⟩,
  ⟨some 24, .mkfn 127 [] [(.t 4), (.t 5)], none⟩,
  ⟨some 25, .build [(.list 0 0 .no false []), .nilfn, (.list 0 0 .no false [])] [(0, 1, (.t 23)), (1, 1, (.t 24))], none⟩,
  ⟨some 26, .box 3 (.t 25), none⟩,
  ⟨some 10, .mv (.t 26), none⟩]
@[simp] def f113r8 : List ROper := [
  ⟨some 11, .mv (.c (.int .i64 (.ofNat 0))), none⟩]
@[simp] def f113r9 : List ROper := [
  ⟨some 27, .mv (.t 11), none⟩,
  ⟨some 28, .mv (.t 0), none⟩,
  ⟨some 29, .len .slice (.t 28), none⟩,
  ⟨some 30, .bin .lss (.t 27) (.t 29), none⟩,
  ⟨some 31, .mv (.t 30), none⟩,
  ⟨some 32, .mv (.t 0), some (31, true)⟩,
  ⟨some 33, .mv (.t 11), some (31, true)⟩,
  ⟨some 34, .iaddr 8 (.t 32) (.t 33), some (31, true)⟩,
  ⟨some 35, .faddr 0 (.t 34), some (31, true)⟩,
  ⟨some 36, .load 1 false (.t 35), some (31, true)⟩,
  ⟨some 37, .bin .eql (.t 36) (.c (.int .i64 (.ofNat 2))), some (31, true)⟩,
  ⟨some 38, .pick (.t 31) (.t 37) (.c (.bool false)), none⟩]
@[simp] def f113r10 : List ROper := [
  ⟨some 39, .mv (.t 11), none⟩,
  ⟨some 40, .bin .add (.t 39) (.c (.int .i64 (.ofNat 1))), none⟩,
  ⟨some 11, .mv (.t 40), none⟩]
def f113B0 : RC := (.seq (.seq (.region f113r9 [0, 10, 11, 38]) (.cond (.t 38) .skip (.exit 0))) (.block 1 (.region f113r10 [0, 10, 11])))
def f113L0 : RC := .loop [0, 10, 11] f113B0
@[simp] def f113r11 : List ROper := [
  ⟨some 41, .mv (.t 11), none⟩,
  ⟨some 42, .mv (.t 0), none⟩,
  ⟨some 43, .len .slice (.t 42), none⟩,
  ⟨some 44, .bin .eql (.t 41) (.t 43), none⟩]
@[simp] def f113r12 : List ROper := [
  ⟨some 45, .mv (.t 0), none⟩,
  ⟨some 46, .len .slice (.t 45), none⟩,
  ⟨some 47, .mv (.t 0), none⟩,
  ⟨some 48, .len .slice (.t 47), none⟩,
  ⟨some 49, .build [(.int .i64 (.ofNat 0)), (.int .i64 (.ofNat 0)), (.bool false), (.bool false), (.int .i64 (.ofNat 0))] [(0, 1, (.t 46)), (1, 1, (.t 48))], none⟩,
  ⟨some 50, .lit 5 true [(.int .i64 (.ofNat 0)), (.int .i64 (.ofNat 0)), (.bool false), (.bool false), (.int .i64 (.ofNat 0))] 1 [(0, (.t 49))], none⟩,
  ⟨some 6, .mv (.t 50), none⟩,
  ⟨some 7, .mv (.c (.int .i64 (.ofNat 0))), none⟩]
@[simp] def f113r13 : List ROper := [
  ⟨some 51, .mv (.t 11), none⟩,
  ⟨some 52, .mv (.t 0), none⟩,
  ⟨some 53, .len .slice (.t 52), none⟩,
  ⟨some 54, .mv (.t 10), none⟩,
  ⟨some 55, .mkfn 129 [(.t 54)] [], none⟩,
  ⟨some 56, .mv (.t 10), none⟩,
  ⟨some 57, .mkfn 130 [(.t 56)] [], none⟩,
  ⟨some 58, .call 128 [(.t 51), (.t 53), (.t 55), (.t 57)], none⟩]
@[simp] def f113r14 : List ROper := [
  ⟨some 59, .mv (.t 10), none⟩,
  ⟨some 60, .nilchk (.t 59), none⟩,
  ⟨some 61, .faddr 2 (.t 60), none⟩,
  ⟨some 62, .load 1 false (.t 61), none⟩,
  ⟨some 6, .mv (.t 62), none⟩,
  ⟨some 7, .mv (.c (.int .i64 (.ofNat 0))), none⟩]
def f113 : RFunc := ⟨[.t 6, .t 7], (.seq (.region f113r0 [0, 4, 5]) (.seq (.seq (.region f113r1 [0, 4, 5, 8]) (.seq (.region f113r2 [0, 4, 5, 8, 15]) (.cond (.t 15) (.seq (.region f113r3 [6, 7]) .ret) .skip))) (.seq (.seq (.region f113r4 [0, 4, 5, 9]) (.seq (.region f113r5 [0, 4, 5, 9, 21]) (.cond (.t 21) (.seq (.region f113r6 [6, 7]) .ret) .skip))) (.seq (.region f113r7 [0, 10]) (.seq (.region f113r8 [0, 10, 11]) (.seq (.block 0 f113L0) (.seq (.seq (.region f113r11 [0, 10, 11, 44]) (.cond (.t 44) (.seq (.region f113r12 [6, 7]) .ret) .skip)) (.seq (.region f113r13 [10]) (.seq (.region f113r14 [6, 7]) .ret))))))))), true⟩

/-! quire/first.Slot -/
@[simp] def f114r0 : List ROper := [
  ⟨some 4, .box 2 (.t 1), none⟩,
  ⟨some 6, .alloc [(.int .i64 (.ofNat 0)), (.int .i64 (.ofNat 0))], none⟩]
@[simp] def f114r1 : List ROper := [
  ⟨some 8, .mv (.t 2), none⟩,
  ⟨some 9, .bin .lss (.t 8) (.c (.int .i64 (.ofNat 0))), none⟩,
  ⟨some 7, .mv (.t 9), none⟩]
@[simp] def f114r2 : List ROper := [
  ⟨some 10, .build [(.int .i64 (.ofNat 0)), (.int .i64 (.ofNat 0))] [], none⟩,
  ⟨none, .store 2 (.t 6) (.t 10), none⟩]
@[simp] def f114r3 : List ROper := [
  ⟨some 12, .mv (.t 2), none⟩,
  ⟨some 13, .mv (.t 0), none⟩,
  ⟨some 14, .len .slice (.t 13), none⟩,
  ⟨some 15, .bin .lss (.t 12) (.t 14), none⟩,
  ⟨some 11, .mv (.t 15), none⟩]
@[simp] def f114r4 : List ROper := [
  ⟨some 16, .mv (.t 0), none⟩,
  ⟨some 17, .mv (.t 2), none⟩,
  ⟨some 18, .iaddr 2 (.t 16) (.t 17), none⟩,
  ⟨some 19, .load 2 true (.t 18), none⟩,
  ⟨none, .store 2 (.t 6) (.t 19), none⟩]
@[simp] def f114r5 : List ROper := [
  ⟨some 20, .load 2 true (.t 4), none⟩,
  ⟨none, .store 2 (.t 6) (.t 20), none⟩]
def f114 : RFunc := ⟨[.cell 6 2 true], (.seq (.region f114r0 [0, 2, 4, 6]) (.seq (.block 0 (.seq (.region f114r1 [0, 2, 4, 6, 7]) (.cond (.t 7) (.seq (.region f114r2 [6]) .ret) (.seq (.region f114r3 [0, 2, 4, 6, 11]) (.cond (.t 11) (.seq (.region f114r4 [6]) .ret) .skip))))) (.seq (.region f114r5 [6]) .ret))), true⟩

/-! quire/item.body -/
@[simp] def f117r0 : List ROper := [
  ⟨some 1, .box 21 (.t 0), none⟩,
  ⟨some 2, .mv (.c (.list 0 0 .no false [])), none⟩,
  ⟨some 3, .mv (.c (.int .i64 (.ofNat 0))), none⟩]
@[simp] def f117r1 : List ROper := [
  ⟨some 7, .load 21 true (.t 1), none⟩,
  ⟨some 8, .call 10 [(.t 7)], none⟩,
  ⟨some 6, .mv (.t 8), none⟩,
  ⟨some 9, .extract (.t 6) 0, none⟩,
  ⟨some 10, .extract (.t 6) 1, none⟩,
  ⟨some 4, .mv (.t 9), none⟩,
  ⟨some 5, .mv (.t 10), none⟩]
@[simp] def f117r2 : List ROper := [
  ⟨some 11, .mv (.t 5), none⟩,
  ⟨some 12, .bin .eql (.t 11) (.c (.int .i64 (.ofNat 0))), none⟩,
  ⟨some 13, .mv (.t 12), none⟩,
  ⟨some 14, .faddr 2 (.t 1), some (13, true)⟩,
  ⟨some 15, .faddr 14 (.t 14), some (13, true)⟩,
  ⟨some 16, .load 1 false (.t 15), some (13, true)⟩,
  ⟨some 17, .bin .geq (.t 16) (.c (.int .i64 (.ofNat 2))), some (13, true)⟩,
  ⟨some 18, .pick (.t 13) (.t 17) (.c (.bool false)), none⟩,
  ⟨some 19, .mv (.t 18), none⟩,
  ⟨some 20, .mv (.t 4), some (19, true)⟩,
  ⟨some 21, .len .slice (.t 20), some (19, true)⟩,
  ⟨some 22, .bin .gtr (.t 21) (.c (.int .i64 (.ofNat 0))), some (19, true)⟩,
  ⟨some 23, .pick (.t 19) (.t 22) (.c (.bool false)), none⟩,
  ⟨some 24, .mv (.t 23), none⟩,
  ⟨some 25, .mv (.t 4), some (24, true)⟩,
  ⟨some 26, .iaddr 6 (.t 25) (.c (.int .i64 (.ofNat 0))), some (24, true)⟩,
  ⟨some 27, .faddr 2 (.t 26), some (24, true)⟩,
  ⟨some 28, .load 1 false (.t 27), some (24, true)⟩,
  ⟨some 29, .bin .eql (.t 28) (.c (.int .i64 (.ofNat 1))), some (24, true)⟩,
  ⟨some 30, .pick (.t 24) (.t 29) (.c (.bool false)), none⟩]
@[simp] def f117r3 : List ROper := [
  ⟨some 31, .mv (.t 4), none⟩,
  ⟨some 32, .slice false 6 (.t 31) (some (.c (.int .i64 (.ofNat 1)))) none none, none⟩,
  ⟨some 4, .mv (.t 32), none⟩]
@[simp] def f117r4 : List ROper := [
  ⟨some 33, .mv (.t 4), none⟩,
  ⟨some 34, .mv (.t 5), none⟩,
  ⟨some 2, .mv (.t 33), none⟩,
  ⟨some 3, .mv (.t 34), none⟩]
def f117 : RFunc := ⟨[.t 2, .t 3], (.seq (.region f117r0 [1]) (.seq (.region f117r1 [1, 4, 5]) (.seq (.seq (.region f117r2 [4, 5, 30]) (.cond (.t 30) (.region f117r3 [4, 5]) .skip)) (.seq (.region f117r4 [2, 3]) .ret)))), true⟩

/-! quire/item.walk -/
@[simp] def f118r0 : List ROper := [
  ⟨some 2, .box 21 (.t 0), none⟩,
  ⟨some 3, .box 1 (.t 1), none⟩,
  ⟨some 4, .mv (.c .nilfn), none⟩]
@[simp] def f118r1 : List ROper := [
  ⟨some 5, .mkfn 131 [] [(.t 2), (.t 3)], none⟩,
  ⟨some 4, .mv (.t 5), none⟩]
def f118 : RFunc := ⟨[.t 4], (.seq (.region f118r0 [2, 3]) (.seq (.region f118r1 [4]) .ret)), false⟩

/-! quire/item.odd -/
@[simp] def f120r0 : List ROper := [
  ⟨some 1, .box 8 (.t 0), none⟩,
  ⟨some 2, .mv (.c (.bool false)), none⟩]
@[simp] def f120r1 : List ROper := [
  ⟨some 3, .faddr 0 (.t 1), none⟩,
  ⟨some 4, .load 1 false (.t 3), none⟩,
  ⟨some 5, .bin .lss (.t 4) (.c (.int .i64 (.ofNat 1))), none⟩,
  ⟨some 6, .mv (.t 5), none⟩,
  ⟨some 7, .faddr 0 (.t 1), some (6, false)⟩,
  ⟨some 8, .load 1 false (.t 7), some (6, false)⟩,
  ⟨some 9, .bin .gtr (.t 8) (.c (.int .i64 (.ofNat 4))), some (6, false)⟩,
  ⟨some 10, .pick (.t 6) (.c (.bool true)) (.t 9), none⟩,
  ⟨some 11, .mv (.t 10), none⟩,
  ⟨some 12, .faddr 1 (.t 1), some (11, false)⟩,
  ⟨some 13, .load 1 false (.t 12), some (11, false)⟩,
  ⟨some 14, .bin .lss (.t 13) (.c (.int .i64 (.ofNat 0))), some (11, false)⟩,
  ⟨some 15, .pick (.t 11) (.c (.bool true)) (.t 14), none⟩,
  ⟨some 16, .mv (.t 15), none⟩,
  ⟨some 17, .faddr 2 (.t 1), some (16, false)⟩,
  ⟨some 18, .load 1 false (.t 17), some (16, false)⟩,
  ⟨some 19, .faddr 1 (.t 1), some (16, false)⟩,
  ⟨some 20, .load 1 false (.t 19), some (16, false)⟩,
  ⟨some 21, .bin .lss (.t 18) (.t 20), some (16, false)⟩,
  ⟨some 22, .pick (.t 16) (.c (.bool true)) (.t 21), none⟩,
  ⟨some 23, .mv (.t 22), none⟩,
  ⟨some 24, .faddr 3 (.t 1), some (23, false)⟩,
  ⟨some 25, .load 1 false (.t 24), some (23, false)⟩,
  ⟨some 26, .bin .lss (.t 25) (.c (.int .i64 (.ofNat 0))), some (23, false)⟩,
  ⟨some 27, .pick (.t 23) (.c (.bool true)) (.t 26), none⟩,
  ⟨some 28, .mv (.t 27), none⟩,
  ⟨some 29, .faddr 3 (.t 1), some (28, false)⟩,
  ⟨some 30, .load 1 false (.t 29), some (28, false)⟩,
  ⟨some 31, .bin .gtr (.t 30) (.c (.int .i64 (.ofNat 2097152))), some (28, false)⟩,
  ⟨some 32, .pick (.t 28) (.c (.bool true)) (.t 31), none⟩,
  ⟨some 33, .mv (.t 32), none⟩,
  ⟨some 34, .faddr 4 (.t 1), some (33, false)⟩,
  ⟨some 35, .load 1 false (.t 34), some (33, false)⟩,
  ⟨some 36, .call 122 [(.t 35)], some (33, false)⟩,
  ⟨some 37, .un .not (.t 36), some (33, false)⟩,
  ⟨some 38, .pick (.t 33) (.c (.bool true)) (.t 37), none⟩,
  ⟨some 39, .mv (.t 38), none⟩,
  ⟨some 40, .faddr 5 (.t 1), some (39, false)⟩,
  ⟨some 41, .load 1 false (.t 40), some (39, false)⟩,
  ⟨some 42, .call 122 [(.t 41)], some (39, false)⟩,
  ⟨some 43, .un .not (.t 42), some (39, false)⟩,
  ⟨some 44, .pick (.t 39) (.c (.bool true)) (.t 43), none⟩,
  ⟨some 45, .mv (.t 44), none⟩,
  ⟨some 46, .faddr 6 (.t 1), some (45, false)⟩,
  ⟨some 47, .load 1 false (.t 46), some (45, false)⟩,
  ⟨some 48, .call 122 [(.t 47)], some (45, false)⟩,
  ⟨some 49, .un .not (.t 48), some (45, false)⟩,
  ⟨some 50, .pick (.t 45) (.c (.bool true)) (.t 49), none⟩]
@[simp] def f120r2 : List ROper := [
  ⟨some 2, .mv (.c (.bool true)), none⟩]
@[simp] def f120r3 : List ROper := [
  ⟨some 51, .faddr 0 (.t 1), none⟩,
  ⟨some 52, .load 1 false (.t 51), none⟩,
  ⟨some 53, .bin .neq (.t 52) (.c (.int .i64 (.ofNat 3))), none⟩,
  ⟨some 54, .mv (.t 53), none⟩,
  ⟨some 55, .faddr 7 (.t 1), some (54, true)⟩,
  ⟨some 56, .load 1 false (.t 55), some (54, true)⟩,
  ⟨some 57, .mv (.t 56), some (54, true)⟩,
  ⟨some 58, .faddr 6 (.t 1), some (57, false)⟩,
  ⟨some 59, .load 1 false (.t 58), some (57, false)⟩,
  ⟨some 60, .bin .neq (.t 59) (.c (.int .i64 (.ofNat 0))), some (57, false)⟩,
  ⟨some 61, .pick (.t 57) (.c (.bool true)) (.t 60), some (54, true)⟩,
  ⟨some 62, .pick (.t 54) (.t 61) (.c (.bool false)), none⟩,
  ⟨some 63, .mv (.t 62), none⟩,
  ⟨some 64, .faddr 0 (.t 1), some (63, false)⟩,
  ⟨some 65, .load 1 false (.t 64), some (63, false)⟩,
  ⟨some 66, .bin .neq (.t 65) (.c (.int .i64 (.ofNat 2))), some (63, false)⟩,
  ⟨some 67, .mv (.t 66), some (63, false)⟩,
  ⟨some 68, .faddr 4 (.t 1), some (67, true)⟩,
  ⟨some 69, .load 1 false (.t 68), some (67, true)⟩,
  ⟨some 70, .bin .neq (.t 69) (.c (.int .i64 (.ofNat 0))), some (67, true)⟩,
  ⟨some 71, .mv (.t 70), some (67, true)⟩,
  ⟨some 72, .faddr 5 (.t 1), some (71, false)⟩,
  ⟨some 73, .load 1 false (.t 72), some (71, false)⟩,
  ⟨some 74, .bin .neq (.t 73) (.c (.int .i64 (.ofNat 0))), some (71, false)⟩,
  ⟨some 75, .pick (.t 71) (.c (.bool true)) (.t 74), some (67, true)⟩,
  ⟨some 76, .pick (.t 67) (.t 75) (.c (.bool false)), some (63, false)⟩,
  ⟨some 77, .pick (.t 63) (.c (.bool true)) (.t 76), none⟩,
  ⟨some 78, .mv (.t 77), none⟩,
  ⟨some 79, .faddr 0 (.t 1), some (78, false)⟩,
  ⟨some 80, .load 1 false (.t 79), some (78, false)⟩,
  ⟨some 81, .bin .eql (.t 80) (.c (.int .i64 (.ofNat 4))), some (78, false)⟩,
  ⟨some 82, .mv (.t 81), some (78, false)⟩,
  ⟨some 83, .faddr 3 (.t 1), some (82, true)⟩,
  ⟨some 84, .load 1 false (.t 83), some (82, true)⟩,
  ⟨some 85, .bin .neq (.t 84) (.c (.int .i64 (.ofNat 0))), some (82, true)⟩,
  ⟨some 86, .pick (.t 82) (.t 85) (.c (.bool false)), some (78, false)⟩,
  ⟨some 87, .pick (.t 78) (.c (.bool true)) (.t 86), none⟩,
  ⟨some 2, .mv (.t 87), none⟩]
def f120 : RFunc := ⟨[.t 2], (.seq (.region f120r0 [1]) (.seq (.seq (.region f120r1 [1, 50]) (.cond (.t 50) (.seq (.region f120r2 [2]) .ret) .skip)) (.seq (.region f120r3 [2]) .ret))), true⟩

/-! quire/item.ranged -/
@[simp] def f121r0 : List ROper := [
  ⟨some 6, .mv (.c (.int .i64 (.ofNat 0))), none⟩]
@[simp] def f121r1 : List ROper := [
  ⟨some 8, .mv (.t 0), none⟩,
  ⟨some 9, .call 109 [(.t 8)], none⟩,
  ⟨some 7, .mv (.t 9), none⟩]
@[simp] def f121r2 : List ROper := [
  ⟨some 10, .mv (.t 7), none⟩,
  ⟨some 11, .bin .eql (.t 10) (.c (.int .i64 (.ofNat 0))), none⟩,
  ⟨some 12, .mv (.t 11), none⟩,
  ⟨some 13, .mv (.t 1), some (12, true)⟩,
  ⟨some 14, .bin .lss (.t 13) (.c (.int .i64 (.ofNat 0))), some (12, true)⟩,
  ⟨some 15, .mv (.t 14), some (12, true)⟩,
  ⟨some 16, .mv (.t 2), some (15, false)⟩,
  ⟨some 17, .mv (.t 1), some (15, false)⟩,
  ⟨some 18, .bin .lss (.t 16) (.t 17), some (15, false)⟩,
  ⟨some 19, .pick (.t 15) (.c (.bool true)) (.t 18), some (12, true)⟩,
  ⟨some 20, .mv (.t 19), some (12, true)⟩,
  ⟨some 21, .mv (.t 2), some (20, false)⟩,
  ⟨some 22, .mv (.t 0), some (20, false)⟩,
  ⟨some 23, .len .slice (.t 22), some (20, false)⟩,
  ⟨some 24, .bin .gtr (.t 21) (.t 23), some (20, false)⟩,
  ⟨some 25, .pick (.t 20) (.c (.bool true)) (.t 24), some (12, true)⟩,
  ⟨some 26, .pick (.t 12) (.t 25) (.c (.bool false)), none⟩]
@[simp] def f121r3 : List ROper := [
  ⟨some 7, .mv (.c (.int .i64 (.ofNat 5))), none⟩]
@[simp] def f121r4 : List ROper := [
  ⟨some 27, .mv (.t 7), none⟩,
  ⟨some 6, .mv (.t 27), none⟩]
def f121 : RFunc := ⟨[.t 6], (.seq (.region f121r0 [0, 1, 2]) (.seq (.region f121r1 [0, 1, 2, 7]) (.seq (.seq (.region f121r2 [7, 26]) (.cond (.t 26) (.region f121r3 [7]) .skip)) (.seq (.region f121r4 [6]) .ret)))), true⟩

/-! quire/item.within -/
@[simp] def f122r0 : List ROper := [
  ⟨some 2, .mv (.c (.bool false)), none⟩]
@[simp] def f122r1 : List ROper := [
  ⟨some 3, .mv (.t 0), none⟩,
  ⟨some 4, .bin .geq (.t 3) (.c (.int .i64 (.ofNat 0))), none⟩,
  ⟨some 5, .mv (.t 4), none⟩,
  ⟨some 6, .mv (.t 0), some (5, true)⟩,
  ⟨some 7, .bin .leq (.t 6) (.c (.int .i64 (.ofNat 4095))), some (5, true)⟩,
  ⟨some 8, .pick (.t 5) (.t 7) (.c (.bool false)), none⟩,
  ⟨some 2, .mv (.t 8), none⟩]
def f122 : RFunc := ⟨[.t 2], (.seq (.region f122r0 [0]) (.seq (.region f122r1 [2]) .ret)), true⟩

/-! quire/item.trimmed -/
@[simp] def f123r0 : List ROper := [
  ⟨some 6, .mv (.c (.list 0 0 .no false [])), none⟩]
@[simp] def f123r1 : List ROper := [
  ⟨some 7, .mv (.t 2), none⟩,
  ⟨some 8, .mv (.t 1), none⟩,
  ⟨some 9, .bin .gtr (.t 7) (.t 8), none⟩,
  ⟨some 10, .mv (.t 9), none⟩,
  ⟨some 11, .mv (.t 0), some (10, true)⟩,
  ⟨some 12, .mv (.t 2), some (10, true)⟩,
  ⟨some 13, .bin .sub (.t 12) (.c (.int .i64 (.ofNat 1))), some (10, true)⟩,
  ⟨some 14, .iaddr 8 (.t 11) (.t 13), some (10, true)⟩,
  ⟨some 15, .faddr 0 (.t 14), some (10, true)⟩,
  ⟨some 16, .load 1 false (.t 15), some (10, true)⟩,
  ⟨some 17, .bin .eql (.t 16) (.c (.int .i64 (.ofNat 2))), some (10, true)⟩,
  ⟨some 18, .pick (.t 10) (.t 17) (.c (.bool false)), none⟩]
@[simp] def f123r2 : List ROper := [
  ⟨some 19, .mv (.t 2), none⟩,
  ⟨some 20, .bin .sub (.t 19) (.c (.int .i64 (.ofNat 1))), none⟩,
  ⟨some 2, .mv (.t 20), none⟩]
def f123B0 : RC := (.seq (.seq (.region f123r1 [0, 1, 2, 18]) (.cond (.t 18) .skip (.exit 0))) (.block 1 (.region f123r2 [0, 1, 2])))
def f123L0 : RC := .loop [0, 1, 2] f123B0
@[simp] def f123r3 : List ROper := [
  ⟨some 21, .mv (.t 0), none⟩,
  ⟨some 22, .mv (.t 1), none⟩,
  ⟨some 23, .mv (.t 2), none⟩,
  ⟨some 24, .slice false 8 (.t 21) (some (.t 22)) (some (.t 23)) none, none⟩,
  ⟨some 6, .mv (.t 24), none⟩]
def f123 : RFunc := ⟨[.t 6], (.seq (.region f123r0 [0, 1, 2]) (.seq (.block 0 f123L0) (.seq (.region f123r3 [6]) .ret))), true⟩

/-! quire/item.leap -/
@[simp] def f124r0 : List ROper := [
  ⟨some 2, .mv (.c (.int .i64 (.ofNat 0))), none⟩]
@[simp] def f124r1 : List ROper := [
  ⟨some 6, .mv (.t 0), none⟩,
  ⟨some 7, .call 139 [(.c (.list 0 0 .no false [])), (.t 6)], none⟩,
  ⟨some 5, .mv (.t 7), none⟩,
  ⟨some 8, .extract (.t 5) 0, none⟩,
  ⟨some 9, .extract (.t 5) 1, none⟩,
  ⟨some 3, .alloc [(.int .i64 (.ofNat 0)), (.int .i64 (.ofNat 0))], none⟩,
  ⟨none, .store 2 (.t 3) (.t 8), none⟩,
  ⟨some 4, .mv (.t 9), none⟩]
@[simp] def f124r2 : List ROper := [
  ⟨some 10, .mv (.t 4), none⟩,
  ⟨some 11, .bin .eql (.t 10) (.c (.int .i64 (.ofNat 0))), none⟩]
@[simp] def f124r3 : List ROper := [
  ⟨some 12, .faddr 0 (.t 3), none⟩,
  ⟨some 13, .load 1 false (.t 12), none⟩,
  ⟨some 2, .mv (.t 13), none⟩]
@[simp] def f124r4 : List ROper := [
  ⟨some 14, .mv (.t 0), none⟩,
  ⟨some 15, .bin .quo (.t 14) (.c (.int .i64 (.ofNat 48))), none⟩,
  ⟨some 16, .bin .add (.t 15) (.c (.int .i64 (.ofNat 1))), none⟩,
  ⟨some 17, .bin .mul (.t 16) (.c (.int .i64 (.ofNat 48))), none⟩,
  ⟨some 2, .mv (.t 17), none⟩]
def f124 : RFunc := ⟨[.t 2], (.seq (.region f124r0 [0]) (.seq (.seq (.region f124r1 [0, 3, 4]) (.seq (.region f124r2 [0, 3, 11]) (.cond (.t 11) (.seq (.region f124r3 [2]) .ret) .skip))) (.seq (.region f124r4 [2]) .ret))), true⟩

/-! quire/first.Check -/
@[simp] def f126r0 : List ROper := [
  ⟨some 3, .box 2 (.t 1), none⟩,
  ⟨some 4, .mv (.c (.int .i64 (.ofNat 0))), none⟩]
@[simp] def f126r1 : List ROper := [
  ⟨some 7, .mv (.t 0), none⟩,
  ⟨some 8, .len .slice (.t 7), none⟩,
  ⟨some 9, .bin .gtr (.t 8) (.c (.int .i64 (.ofNat 256))), none⟩]
@[simp] def f126r2 : List ROper := [
  ⟨some 4, .mv (.c (.int .i64 (.ofNat 3))), none⟩]
@[simp] def f126r3 : List ROper := [
  ⟨some 10, .mv (.t 0), none⟩,
  ⟨some 11, .append 2 true 16 (.c (.list 0 0 .no false [])) (.t 10), none⟩,
  ⟨some 12, .load 2 true (.t 3), none⟩,
  ⟨some 13, .lit 2 true [(.int .i64 (.ofNat 0)), (.int .i64 (.ofNat 0))] 1 [(0, (.t 12))], none⟩,
  ⟨some 14, .append 2 true 16 (.t 11) (.t 13), none⟩,
  ⟨some 15, .len .slice (.t 14), none⟩,
  ⟨some 16, .mv (.c (.int .i64 (.ofNat 0))), none⟩]
@[simp] def f126r4 : List ROper := [
  ⟨some 17, .bin .lss (.t 16) (.t 15), none⟩]
@[simp] def f126r5 : List ROper := [
  ⟨some 18, .iaddr 2 (.t 14) (.t 16), none⟩,
  ⟨some 19, .load 2 true (.t 18), none⟩,
  ⟨some 6, .alloc [(.int .i64 (.ofNat 0)), (.int .i64 (.ofNat 0))], none⟩,
  ⟨none, .store 2 (.t 6) (.t 19), none⟩]
@[simp] def f126r6 : List ROper := [
  ⟨some 20, .load 2 true (.t 6), none⟩,
  ⟨some 21, .call 140 [(.t 20)], none⟩,
  ⟨some 22, .un .not (.t 21), none⟩]
@[simp] def f126r7 : List ROper := [
  ⟨some 4, .mv (.c (.int .i64 (.ofNat 2))), none⟩]
@[simp] def f126r8 : List ROper := [
  ⟨some 23, .bin .add (.t 16) (.c (.int .i64 (.ofNat 1))), none⟩,
  ⟨some 16, .mv (.t 23), none⟩]
def f126B0 : RC := (.seq (.region f126r4 [14, 15, 16, 17]) (.seq (.cond (.t 17) .skip (.exit 0)) (.seq (.block 1 (.seq (.region f126r5 [6, 14, 15, 16]) (.seq (.region f126r6 [14, 15, 16, 22]) (.cond (.t 22) (.seq (.region f126r7 [4]) .ret) .skip)))) (.region f126r8 [14, 15, 16]))))
def f126L0 : RC := .loop [14, 15, 16] f126B0
@[simp] def f126r9 : List ROper := [
  ⟨some 4, .mv (.c (.int .i64 (.ofNat 0))), none⟩]
def f126 : RFunc := ⟨[.t 4], (.seq (.region f126r0 [0, 3]) (.seq (.seq (.region f126r1 [0, 3, 9]) (.cond (.t 9) (.seq (.region f126r2 [4]) .ret) .skip)) (.seq (.seq (.dregion f126r3 [] [(2, [0]), (3, [0])] [14, 15, 16]) (.block 0 f126L0)) (.seq (.region f126r9 [4]) .ret)))), true⟩

/-! quire/first.Break$1 -/
@[simp] def f127r0 : List ROper := [
  ⟨some 4, .alloc [(.int .i64 (.ofNat 0)), (.int .i64 (.ofNat 0))], none⟩]
@[simp] def f127r1 : List ROper := [
  ⟨some 5, .load 1 false (.t 1), none⟩,
  ⟨some 6, .load 2 true (.t 2), none⟩,
  ⟨some 7, .mv (.t 0), none⟩,
  ⟨some 8, .call 114 [(.t 5), (.t 6), (.t 7)], none⟩,
  ⟨none, .store 2 (.t 4) (.t 8), none⟩]
def f127 : RFunc := ⟨[.cell 4 2 true], (.seq (.region f127r0 [0, 1, 2, 4]) (.seq (.region f127r1 [4]) .ret)), false⟩

/-! quire/first.gather -/
@[simp] def f128r0 : List ROper := [
  ⟨some 9, .mv (.t 0), none⟩,
  ⟨some 8, .mv (.t 9), none⟩]
@[simp] def f128r1 : List ROper := [
  ⟨some 10, .mv (.t 8), none⟩,
  ⟨some 11, .mv (.t 1), none⟩,
  ⟨some 12, .bin .lss (.t 10) (.t 11), none⟩]
@[simp] def f128r2 : List ROper := [
  ⟨some 13, .mv (.t 3), none⟩,
  ⟨some 14, .mv (.t 2), none⟩,
  ⟨some 15, .mv (.t 8), none⟩,
  ⟨some 16, .callv (.t 14) [(.t 15)], none⟩,
  ⟨some 17, .callv (.t 13) [(.t 16)], none⟩,
  ⟨some 8, .mv (.t 17), none⟩]
def f128B0 : RC := (.seq (.seq (.region f128r1 [1, 2, 3, 8, 12]) (.cond (.t 12) .skip (.exit 0))) (.seq (.block 1 .skip) (.region f128r2 [1, 2, 3, 8])))
def f128L0 : RC := .loop [1, 2, 3, 8] f128B0
def f128 : RFunc := ⟨[], (.seq (.region f128r0 [1, 2, 3, 8]) (.block 0 f128L0)), false⟩

/-! (*quire/first.breaker).line -/
@[simp] def f129r0 : List ROper := [
  ⟨some 4, .mv (.c (.int .i64 (.ofNat 0))), none⟩]
@[simp] def f129r1 : List ROper := [
  ⟨some 14, .mv (.t 0), none⟩,
  ⟨some 15, .nilchk (.t 14), none⟩,
  ⟨some 16, .faddr 1 (.t 15), none⟩,
  ⟨some 17, .load 1 false (.t 16), none⟩,
  ⟨some 18, .mv (.t 0), none⟩,
  ⟨some 19, .nilchk (.t 18), none⟩,
  ⟨some 20, .faddr 2 (.t 19), none⟩,
  ⟨some 21, .load 1 false (.t 20), none⟩,
  ⟨some 22, .len .slice (.t 21), none⟩,
  ⟨some 23, .callv (.t 17) [(.t 22)], none⟩,
  ⟨some 5, .alloc [(.int .i64 (.ofNat 0)), (.int .i64 (.ofNat 0))], none⟩,
  ⟨none, .store 2 (.t 5) (.t 23), none⟩]
@[simp] def f129r2 : List ROper := [
  ⟨some 6, .mv (.c (.int .i64 (.negSucc 0))), none⟩,
  ⟨some 7, .mv (.c (.int .i64 (.ofNat 0))), none⟩,
  ⟨some 8, .mv (.c (.bool false)), none⟩]
@[simp] def f129r3 : List ROper := [
  ⟨some 24, .faddr 0 (.t 5), none⟩,
  ⟨some 25, .load 1 false (.t 24), none⟩,
  ⟨some 9, .mv (.t 25), none⟩]
@[simp] def f129r4 : List ROper := [
  ⟨some 26, .faddr 0 (.t 5), none⟩,
  ⟨some 27, .load 1 false (.t 26), none⟩,
  ⟨some 10, .mv (.t 27), none⟩]
@[simp] def f129r5 : List ROper := [
  ⟨some 28, .mv (.t 1), none⟩,
  ⟨some 11, .mv (.t 28), none⟩]
@[simp] def f129r6 : List ROper := [
  ⟨some 29, .mv (.t 11), none⟩,
  ⟨some 30, .mv (.t 0), none⟩,
  ⟨some 31, .nilchk (.t 30), none⟩,
  ⟨some 32, .faddr 0 (.t 31), none⟩,
  ⟨some 33, .load 1 false (.t 32), none⟩,
  ⟨some 34, .len .slice (.t 33), none⟩,
  ⟨some 35, .bin .leq (.t 29) (.t 34), none⟩]
@[simp] def f129r7 : List ROper := [
  ⟨some 38, .mv (.t 11), none⟩,
  ⟨some 39, .mv (.t 1), none⟩,
  ⟨some 40, .bin .gtr (.t 38) (.t 39), none⟩,
  ⟨some 41, .mv (.t 40), none⟩,
  ⟨some 42, .mv (.t 0), some (41, true)⟩,
  ⟨some 43, .mv (.t 11), some (41, true)⟩,
  ⟨some 44, .call 141 [(.t 42), (.t 43)], some (41, true)⟩,
  ⟨some 45, .pick (.t 41) (.t 44) (.c (.bool false)), none⟩]
@[simp] def f129r8 : List ROper := [
  ⟨some 46, .mv (.t 10), none⟩,
  ⟨some 47, .faddr 0 (.t 5), none⟩,
  ⟨some 48, .load 1 false (.t 47), none⟩,
  ⟨some 49, .bin .sub (.t 46) (.t 48), none⟩,
  ⟨some 12, .mv (.t 49), none⟩]
@[simp] def f129r9 : List ROper := [
  ⟨some 50, .mv (.t 11), none⟩,
  ⟨some 51, .mv (.t 0), none⟩,
  ⟨some 52, .nilchk (.t 51), none⟩,
  ⟨some 53, .faddr 0 (.t 52), none⟩,
  ⟨some 54, .load 1 false (.t 53), none⟩,
  ⟨some 55, .len .slice (.t 54), none⟩,
  ⟨some 56, .bin .lss (.t 50) (.t 55), none⟩,
  ⟨some 57, .mv (.t 56), none⟩,
  ⟨some 58, .mv (.t 0), some (57, true)⟩,
  ⟨some 59, .nilchk (.t 58), some (57, true)⟩,
  ⟨some 60, .faddr 0 (.t 59), some (57, true)⟩,
  ⟨some 61, .load 1 false (.t 60), some (57, true)⟩,
  ⟨some 62, .mv (.t 11), some (57, true)⟩,
  ⟨some 63, .iaddr 8 (.t 61) (.t 62), some (57, true)⟩,
  ⟨some 64, .faddr 0 (.t 63), some (57, true)⟩,
  ⟨some 65, .load 1 false (.t 64), some (57, true)⟩,
  ⟨some 66, .bin .eql (.t 65) (.c (.int .i64 (.ofNat 3))), some (57, true)⟩,
  ⟨some 67, .pick (.t 57) (.t 66) (.c (.bool false)), none⟩]
@[simp] def f129r10 : List ROper := [
  ⟨some 68, .mv (.t 12), none⟩,
  ⟨some 69, .mv (.t 0), none⟩,
  ⟨some 70, .nilchk (.t 69), none⟩,
  ⟨some 71, .faddr 0 (.t 70), none⟩,
  ⟨some 72, .load 1 false (.t 71), none⟩,
  ⟨some 73, .mv (.t 11), none⟩,
  ⟨some 74, .iaddr 8 (.t 72) (.t 73), none⟩,
  ⟨some 75, .faddr 3 (.t 74), none⟩,
  ⟨some 76, .load 1 false (.t 75), none⟩,
  ⟨some 77, .bin .add (.t 68) (.t 76), none⟩,
  ⟨some 12, .mv (.t 77), none⟩]
@[simp] def f129r11 : List ROper := [
  ⟨some 78, .mv (.t 6), none⟩,
  ⟨some 79, .bin .lss (.t 78) (.c (.int .i64 (.ofNat 0))), none⟩,
  ⟨some 80, .mv (.t 79), none⟩,
  ⟨some 81, .mv (.t 12), some (80, false)⟩,
  ⟨some 82, .faddr 1 (.t 5), some (80, false)⟩,
  ⟨some 83, .load 1 false (.t 82), some (80, false)⟩,
  ⟨some 84, .bin .leq (.t 81) (.t 83), some (80, false)⟩,
  ⟨some 85, .pick (.t 80) (.c (.bool true)) (.t 84), none⟩]
@[simp] def f129r12 : List ROper := [
  ⟨some 86, .mv (.t 12), none⟩,
  ⟨some 87, .faddr 1 (.t 5), none⟩,
  ⟨some 88, .load 1 false (.t 87), none⟩,
  ⟨some 89, .bin .gtr (.t 86) (.t 88), none⟩]
@[simp] def f129r13 : List ROper := [
  ⟨some 8, .mv (.c (.bool true)), none⟩]
@[simp] def f129r14 : List ROper := [
  ⟨some 90, .mv (.t 11), none⟩,
  ⟨some 91, .mv (.t 12), none⟩,
  ⟨some 6, .mv (.t 90), none⟩,
  ⟨some 7, .mv (.t 91), none⟩]
@[simp] def f129r15 : List ROper := [
  ⟨some 92, .mv (.t 12), none⟩,
  ⟨some 93, .faddr 1 (.t 5), none⟩,
  ⟨some 94, .load 1 false (.t 93), none⟩,
  ⟨some 95, .bin .gtr (.t 92) (.t 94), none⟩]
@[simp] def f129r16 : List ROper := [
  ⟨some 96, .mv (.t 11), none⟩,
  ⟨some 97, .mv (.t 0), none⟩,
  ⟨some 98, .nilchk (.t 97), none⟩,
  ⟨some 99, .faddr 0 (.t 98), none⟩,
  ⟨some 100, .load 1 false (.t 99), none⟩,
  ⟨some 101, .len .slice (.t 100), none⟩,
  ⟨some 102, .bin .lss (.t 96) (.t 101), none⟩]
@[simp] def f129r17 : List ROper := [
  ⟨some 103, .mv (.t 0), none⟩,
  ⟨some 104, .mv (.t 11), none⟩,
  ⟨some 105, .mv (.t 9), none⟩,
  ⟨some 106, .call 142 [(.t 103), (.t 104), (.t 105)], none⟩,
  ⟨some 9, .mv (.t 106), none⟩]
@[simp] def f129r18 : List ROper := [
  ⟨some 107, .mv (.t 0), none⟩,
  ⟨some 108, .nilchk (.t 107), none⟩,
  ⟨some 109, .faddr 0 (.t 108), none⟩,
  ⟨some 110, .load 1 false (.t 109), none⟩,
  ⟨some 111, .mv (.t 11), none⟩,
  ⟨some 112, .iaddr 8 (.t 110) (.t 111), none⟩,
  ⟨some 113, .faddr 0 (.t 112), none⟩,
  ⟨some 114, .load 1 false (.t 113), none⟩,
  ⟨some 115, .bin .neq (.t 114) (.c (.int .i64 (.ofNat 2))), none⟩]
@[simp] def f129r19 : List ROper := [
  ⟨some 116, .mv (.t 9), none⟩,
  ⟨some 10, .mv (.t 116), none⟩]
@[simp] def f129r20 : List ROper := [
  ⟨some 36, .mv (.t 11), none⟩,
  ⟨some 37, .bin .add (.t 36) (.c (.int .i64 (.ofNat 1))), none⟩,
  ⟨some 11, .mv (.t 37), none⟩]
def f129B0 : RC := (.seq (.seq (.region f129r6 [0, 1, 5, 6, 7, 8, 9, 10, 11, 35]) (.cond (.t 35) .skip (.exit 0))) (.seq (.block 1 (.seq (.seq (.region f129r7 [0, 1, 5, 6, 7, 8, 9, 10, 11, 45]) (.cond (.t 45) (.seq (.region f129r8 [0, 1, 5, 6, 7, 8, 9, 10, 11, 12]) (.seq (.seq (.region f129r9 [0, 1, 5, 6, 7, 8, 9, 10, 11, 12, 67]) (.cond (.t 67) (.region f129r10 [0, 1, 5, 6, 7, 8, 9, 10, 11, 12]) .skip)) (.seq (.seq (.region f129r11 [0, 1, 5, 6, 7, 8, 9, 10, 11, 12, 85]) (.cond (.t 85) (.seq (.seq (.region f129r12 [0, 1, 5, 8, 9, 10, 11, 12, 89]) (.cond (.t 89) (.region f129r13 [0, 1, 5, 8, 9, 10, 11, 12]) .skip)) (.region f129r14 [0, 1, 5, 6, 7, 8, 9, 10, 11, 12])) .skip)) (.seq (.region f129r15 [0, 1, 5, 6, 7, 8, 9, 10, 11, 95]) (.cond (.t 95) (.exit 0) .skip))))) .skip)) (.seq (.region f129r16 [0, 1, 5, 6, 7, 8, 9, 10, 11, 102]) (.cond (.t 102) (.seq (.region f129r17 [0, 1, 5, 6, 7, 8, 9, 10, 11]) (.seq (.region f129r18 [0, 1, 5, 6, 7, 8, 9, 10, 11, 115]) (.cond (.t 115) (.region f129r19 [0, 1, 5, 6, 7, 8, 9, 10, 11]) .skip))) .skip)))) (.region f129r20 [0, 1, 5, 6, 7, 8, 9, 10, 11])))
def f129L0 : RC := .loop [0, 1, 5, 6, 7, 8, 9, 10, 11] f129B0
@[simp] def f129r21 : List ROper := [
  ⟨some 117, .mv (.t 1), none⟩,
  ⟨some 118, .mv (.t 6), none⟩,
  ⟨some 119, .mv (.t 8), none⟩,
  ⟨some 120, .mv (.t 7), none⟩,
  ⟨some 121, .build [(.int .i64 (.ofNat 0)), (.int .i64 (.ofNat 0)), (.bool false), (.bool false), (.int .i64 (.ofNat 0))] [(0, 1, (.t 117)), (1, 1, (.t 118)), (2, 1, (.t 119)), (4, 1, (.t 120))], none⟩,
  ⟨some 13, .alloc [(.int .i64 (.ofNat 0)), (.int .i64 (.ofNat 0)), (.bool false), (.bool false), (.int .i64 (.ofNat 0))], none⟩,
  ⟨none, .store 5 (.t 13) (.t 121), none⟩]
@[simp] def f129r22 : List ROper := [
  ⟨some 122, .mv (.t 6), none⟩,
  ⟨some 123, .mv (.t 0), none⟩,
  ⟨some 124, .nilchk (.t 123), none⟩,
  ⟨some 125, .faddr 0 (.t 124), none⟩,
  ⟨some 126, .load 1 false (.t 125), none⟩,
  ⟨some 127, .len .slice (.t 126), none⟩,
  ⟨some 128, .bin .lss (.t 122) (.t 127), none⟩,
  ⟨some 129, .mv (.t 128), none⟩,
  ⟨some 130, .mv (.t 0), some (129, true)⟩,
  ⟨some 131, .nilchk (.t 130), some (129, true)⟩,
  ⟨some 132, .faddr 0 (.t 131), some (129, true)⟩,
  ⟨some 133, .load 1 false (.t 132), some (129, true)⟩,
  ⟨some 134, .mv (.t 6), some (129, true)⟩,
  ⟨some 135, .iaddr 8 (.t 133) (.t 134), some (129, true)⟩,
  ⟨some 136, .faddr 7 (.t 135), some (129, true)⟩,
  ⟨some 137, .load 1 false (.t 136), some (129, true)⟩,
  ⟨some 138, .pick (.t 129) (.t 137) (.c (.bool false)), none⟩,
  ⟨some 139, .faddr 3 (.t 13), none⟩,
  ⟨none, .store 1 (.t 139) (.t 138), none⟩]
@[simp] def f129r23 : List ROper := [
  ⟨some 140, .mv (.t 0), none⟩,
  ⟨some 141, .mv (.t 0), none⟩,
  ⟨some 142, .nilchk (.t 141), none⟩,
  ⟨some 143, .faddr 2 (.t 142), none⟩,
  ⟨some 144, .load 1 false (.t 143), none⟩,
  ⟨some 145, .load 5 true (.t 13), none⟩,
  ⟨some 146, .lit 5 true [(.int .i64 (.ofNat 0)), (.int .i64 (.ofNat 0)), (.bool false), (.bool false), (.int .i64 (.ofNat 0))] 1 [(0, (.t 145))], none⟩,
  ⟨some 147, .append 5 true 32 (.t 144) (.t 146), none⟩,
  ⟨some 148, .nilchk (.t 140), none⟩,
  ⟨some 149, .faddr 2 (.t 148), none⟩,
  ⟨none, .store 1 (.t 149) (.t 147), none⟩]
@[simp] def f129r24 : List ROper := [
  ⟨some 150, .mv (.t 6), none⟩,
  ⟨some 4, .mv (.t 150), none⟩]
def f129 : RFunc := ⟨[.t 4], (.seq (.region f129r0 [0, 1]) (.seq (.dregion f129r1 [10] [] [0, 1, 5]) (.seq (.region f129r2 [0, 1, 5, 6, 7, 8]) (.seq (.region f129r3 [0, 1, 5, 6, 7, 8, 9]) (.seq (.region f129r4 [0, 1, 5, 6, 7, 8, 9, 10]) (.seq (.seq (.region f129r5 [0, 1, 5, 6, 7, 8, 9, 10, 11]) (.block 0 f129L0)) (.seq (.region f129r21 [0, 6, 13]) (.seq (.region f129r22 [0, 6, 13]) (.seq (.dregion f129r23 [] [] [6]) (.seq (.region f129r24 [4]) .ret)))))))))), false⟩

/-! (*quire/first.breaker).start -/
@[simp] def f130r0 : List ROper := [
  ⟨some 4, .mv (.c (.int .i64 (.ofNat 0))), none⟩]
@[simp] def f130r1 : List ROper := [
  ⟨some 5, .mv (.t 1), none⟩,
  ⟨some 6, .mv (.t 0), none⟩,
  ⟨some 7, .nilchk (.t 6), none⟩,
  ⟨some 8, .faddr 0 (.t 7), none⟩,
  ⟨some 9, .load 1 false (.t 8), none⟩,
  ⟨some 10, .len .slice (.t 9), none⟩,
  ⟨some 11, .bin .lss (.t 5) (.t 10), none⟩,
  ⟨some 12, .mv (.t 11), none⟩,
  ⟨some 13, .mv (.t 1), some (12, true)⟩,
  ⟨some 14, .bin .geq (.t 13) (.c (.int .i64 (.ofNat 0))), some (12, true)⟩,
  ⟨some 15, .pick (.t 12) (.t 14) (.c (.bool false)), none⟩,
  ⟨some 16, .mv (.t 15), none⟩,
  ⟨some 17, .mv (.t 0), some (16, true)⟩,
  ⟨some 18, .nilchk (.t 17), some (16, true)⟩,
  ⟨some 19, .faddr 0 (.t 18), some (16, true)⟩,
  ⟨some 20, .load 1 false (.t 19), some (16, true)⟩,
  ⟨some 21, .mv (.t 1), some (16, true)⟩,
  ⟨some 22, .iaddr 8 (.t 20) (.t 21), some (16, true)⟩,
  ⟨some 23, .faddr 0 (.t 22), some (16, true)⟩,
  ⟨some 24, .load 1 false (.t 23), some (16, true)⟩,
  ⟨some 25, .bin .eql (.t 24) (.c (.int .i64 (.ofNat 3))), some (16, true)⟩,
  ⟨some 26, .pick (.t 16) (.t 25) (.c (.bool false)), none⟩]
@[simp] def f130r2 : List ROper := [
  ⟨some 27, .mv (.t 1), none⟩,
  ⟨some 28, .bin .add (.t 27) (.c (.int .i64 (.ofNat 1))), none⟩,
  ⟨some 1, .mv (.t 28), none⟩]
@[simp] def f130r3 : List ROper := [
  ⟨some 29, .mv (.t 1), none⟩,
  ⟨some 30, .mv (.t 0), none⟩,
  ⟨some 31, .nilchk (.t 30), none⟩,
  ⟨some 32, .faddr 0 (.t 31), none⟩,
  ⟨some 33, .load 1 false (.t 32), none⟩,
  ⟨some 34, .len .slice (.t 33), none⟩,
  ⟨some 35, .bin .lss (.t 29) (.t 34), none⟩,
  ⟨some 36, .mv (.t 35), none⟩,
  ⟨some 37, .mv (.t 0), some (36, true)⟩,
  ⟨some 38, .nilchk (.t 37), some (36, true)⟩,
  ⟨some 39, .faddr 0 (.t 38), some (36, true)⟩,
  ⟨some 40, .load 1 false (.t 39), some (36, true)⟩,
  ⟨some 41, .mv (.t 1), some (36, true)⟩,
  ⟨some 42, .iaddr 8 (.t 40) (.t 41), some (36, true)⟩,
  ⟨some 43, .faddr 0 (.t 42), some (36, true)⟩,
  ⟨some 44, .load 1 false (.t 43), some (36, true)⟩,
  ⟨some 45, .bin .eql (.t 44) (.c (.int .i64 (.ofNat 2))), some (36, true)⟩,
  ⟨some 46, .pick (.t 36) (.t 45) (.c (.bool false)), none⟩]
@[simp] def f130r4 : List ROper := [
  ⟨some 47, .mv (.t 1), none⟩,
  ⟨some 48, .bin .add (.t 47) (.c (.int .i64 (.ofNat 1))), none⟩,
  ⟨some 1, .mv (.t 48), none⟩]
def f130B0 : RC := (.seq (.seq (.region f130r3 [0, 1, 46]) (.cond (.t 46) .skip (.exit 0))) (.block 1 (.region f130r4 [0, 1])))
def f130L0 : RC := .loop [0, 1] f130B0
@[simp] def f130r5 : List ROper := [
  ⟨some 49, .mv (.t 1), none⟩,
  ⟨some 4, .mv (.t 49), none⟩]
def f130 : RFunc := ⟨[.t 4], (.seq (.region f130r0 [0, 1]) (.seq (.seq (.region f130r1 [0, 1, 26]) (.cond (.t 26) (.region f130r2 [0, 1]) .skip)) (.seq (.block 0 f130L0) (.seq (.region f130r5 [4]) .ret)))), false⟩

/-! quire/item.walk$1 -/
@[simp] def f131r0 : List ROper := [
  ⟨some 3, .box 1 (.t 0), none⟩]
@[simp] def f131r1 : List ROper := [
  ⟨some 12, .load 21 true (.t 1), none⟩,
  ⟨some 13, .load 1 false (.t 2), none⟩,
  ⟨some 14, .call 132 [(.t 12), (.t 13)], none⟩,
  ⟨some 4, .mv (.t 14), none⟩]
@[simp] def f131r2 : List ROper := [
  ⟨some 15, .mkfn 133 [] [(.t 2), (.t 1)], none⟩,
  ⟨some 5, .mv (.t 15), none⟩]
@[simp] def f131r3 : List ROper := [
  ⟨some 7, .alloc [(.int .i64 (.ofNat 0))], none⟩,
  ⟨some 6, .mv (.c (.int .i64 (.ofNat 0))), none⟩,
  ⟨none, .store 1 (.t 7) (.c (.int .i64 (.ofNat 0))), none⟩]
@[simp] def f131r4 : List ROper := [
  ⟨some 16, .mkfn 134 [] [(.t 7), (.t 3), (.t 2)], none⟩,
  ⟨some 8, .mv (.t 16), none⟩]
@[simp] def f131r5 : List ROper := [
  ⟨some 17, .load 1 false (.t 2), none⟩,
  ⟨some 18, .len .slice (.t 17), none⟩,
  ⟨some 19, .mv (.c (.int .i64 (.ofNat 0))), none⟩]
@[simp] def f131r6 : List ROper := [
  ⟨some 20, .bin .lss (.t 19) (.t 18), none⟩]
@[simp] def f131r7 : List ROper := [
  ⟨some 21, .mv (.t 19), none⟩,
  ⟨some 22, .iaddr 6 (.t 17) (.t 19), none⟩,
  ⟨some 23, .load 6 true (.t 22), none⟩,
  ⟨some 10, .alloc [(.int .i64 (.ofNat 0)), (.int .i64 (.ofNat 0)), (.int .i64 (.ofNat 0)), (.int .i64 (.ofNat 0)), (.int .i64 (.ofNat 0)), (.int .i64 (.ofNat 0))], none⟩,
  ⟨some 9, .mv (.t 21), none⟩,
  ⟨none, .store 6 (.t 10) (.t 23), none⟩]
@[simp] def f131r8 : List ROper := [
  ⟨some 24, .load 6 true (.t 10), none⟩,
  ⟨some 25, .call 136 [(.t 24)], none⟩,
  ⟨some 26, .un .not (.t 25), none⟩]
@[simp] def f131r9 : List ROper := [
  ⟨some 27, .mv (.t 8), none⟩,
  ⟨some 28, .mv (.t 9), none⟩,
  ⟨some 29, .callv (.t 27) [(.t 28)], none⟩,
  ⟨some 30, .un .not (.t 29), none⟩,
  ⟨some 31, .mv (.t 30), none⟩,
  ⟨some 32, .load 1 false (.t 3), some (31, false)⟩,
  ⟨some 33, .load 6 true (.t 10), some (31, false)⟩,
  ⟨some 34, .call 137 [(.t 33)], some (31, false)⟩,
  ⟨some 35, .callv (.t 32) [(.t 34)], some (31, false)⟩,
  ⟨some 36, .un .not (.t 35), some (31, false)⟩,
  ⟨some 37, .pick (.t 31) (.c (.bool true)) (.t 36), none⟩]
@[simp] def f131r10 : List ROper := [
  ⟨some 38, .mv (.t 9), none⟩,
  ⟨some 39, .bin .add (.t 38) (.c (.int .i64 (.ofNat 1))), none⟩,
  ⟨some 40, .mv (.t 9), none⟩,
  ⟨some 41, .bin .add (.t 40) (.c (.int .i64 (.ofNat 1))), none⟩,
  ⟨some 6, .mv (.t 39), none⟩,
  ⟨none, .store 1 (.t 7) (.t 41), none⟩]
@[simp] def f131r11 : List ROper := [
  ⟨some 42, .mv (.t 9), none⟩,
  ⟨some 43, .load 1 false (.t 7), none⟩,
  ⟨some 44, .bin .eql (.t 42) (.t 43), none⟩]
@[simp] def f131r12 : List ROper := [
  ⟨some 45, .faddr 0 (.t 10), none⟩,
  ⟨some 46, .load 1 false (.t 45), none⟩,
  ⟨some 47, .faddr 0 (.t 10), none⟩,
  ⟨some 48, .load 1 false (.t 47), none⟩,
  ⟨some 49, .build [(.int .i64 (.ofNat 0)), (.int .i64 (.ofNat 0)), (.int .i64 (.ofNat 0)), (.int .i64 (.ofNat 0)), (.int .i64 (.ofNat 0)), (.int .i64 (.ofNat 0)), (.int .i64 (.ofNat 0)), (.bool false)] [(0, 1, (.c (.int .i64 (.ofNat 3)))), (1, 1, (.t 46)), (2, 1, (.t 48))], none⟩,
  ⟨some 11, .alloc [(.int .i64 (.ofNat 0)), (.int .i64 (.ofNat 0)), (.int .i64 (.ofNat 0)), (.int .i64 (.ofNat 0)), (.int .i64 (.ofNat 0)), (.int .i64 (.ofNat 0)), (.int .i64 (.ofNat 0)), (.bool false)], none⟩,
  ⟨none, .store 8 (.t 11) (.t 49), none⟩]
@[simp] def f131r13 : List ROper := [
  ⟨some 51, .mv (.t 4), none⟩,
  ⟨some 52, .mv (.t 9), none⟩,
  ⟨some 53, .iaddr 1 (.t 51) (.t 52), none⟩,
  ⟨some 54, .load 1 false (.t 53), none⟩,
  ⟨some 50, .mv (.t 54), none⟩]
@[simp] def f131r14 : List ROper := [
  ⟨some 55, .faddr 3 (.t 10), none⟩,
  ⟨some 56, .load 1 false (.t 55), none⟩,
  ⟨some 57, .call 138 [(.t 56)], none⟩,
  ⟨some 58, .faddr 6 (.t 11), none⟩,
  ⟨none, .store 1 (.t 58) (.c (.int .i64 (.ofNat 100))), none⟩,
  ⟨some 59, .faddr 7 (.t 11), none⟩,
  ⟨none, .store 1 (.t 59) (.c (.bool true)), none⟩,
  ⟨some 60, .faddr 3 (.t 11), none⟩,
  ⟨none, .store 1 (.t 60) (.t 57), none⟩]
@[simp] def f131r15 : List ROper := [
  ⟨some 62, .mv (.t 5), none⟩,
  ⟨some 63, .mv (.t 9), none⟩,
  ⟨some 64, .bin .sub (.t 63) (.c (.int .i64 (.ofNat 1))), none⟩,
  ⟨some 65, .callv (.t 62) [(.t 64)], none⟩,
  ⟨some 66, .mv (.t 65), none⟩,
  ⟨some 67, .mv (.t 5), some (66, true)⟩,
  ⟨some 68, .mv (.t 9), some (66, true)⟩,
  ⟨some 69, .callv (.t 67) [(.t 68)], some (66, true)⟩,
  ⟨some 70, .un .not (.t 69), some (66, true)⟩,
  ⟨some 71, .pick (.t 66) (.t 70) (.c (.bool false)), none⟩,
  ⟨some 72, .mv (.t 71), none⟩,
  ⟨some 73, .mv (.t 9), some (72, true)⟩,
  ⟨some 74, .bin .sub (.t 73) (.c (.int .i64 (.ofNat 1))), some (72, true)⟩,
  ⟨some 75, .mv (.t 6), some (72, true)⟩,
  ⟨some 76, .bin .gtr (.t 74) (.t 75), some (72, true)⟩,
  ⟨some 77, .pick (.t 72) (.t 76) (.c (.bool false)), none⟩,
  ⟨some 61, .mv (.t 77), none⟩]
@[simp] def f131r16 : List ROper := [
  ⟨some 78, .faddr 6 (.t 11), none⟩,
  ⟨none, .store 1 (.t 78) (.c (.int .i64 (.ofNat 50))), none⟩]
@[simp] def f131r17 : List ROper := [
  ⟨some 79, .mv (.t 8), none⟩,
  ⟨some 80, .mv (.t 9), none⟩,
  ⟨some 81, .callv (.t 79) [(.t 80)], none⟩,
  ⟨some 82, .un .not (.t 81), none⟩,
  ⟨some 83, .mv (.t 82), none⟩,
  ⟨some 84, .load 1 false (.t 3), some (83, false)⟩,
  ⟨some 85, .load 8 true (.t 11), some (83, false)⟩,
  ⟨some 86, .callv (.t 84) [(.t 85)], some (83, false)⟩,
  ⟨some 87, .un .not (.t 86), some (83, false)⟩,
  ⟨some 88, .pick (.t 83) (.c (.bool true)) (.t 87), none⟩]
@[simp] def f131r18 : List ROper := [
  ⟨some 89, .mv (.t 9), none⟩,
  ⟨none, .store 1 (.t 7) (.t 89), none⟩]
@[simp] def f131r19 : List ROper := [
  ⟨some 90, .bin .add (.t 19) (.c (.int .i64 (.ofNat 1))), none⟩,
  ⟨some 19, .mv (.t 90), none⟩]
def f131B0 : RC := (.seq (.region f131r6 [2, 3, 4, 5, 6, 7, 8, 17, 18, 19, 20]) (.seq (.cond (.t 20) .skip (.exit 0)) (.seq (.block 1 (.seq (.region f131r7 [2, 3, 4, 5, 6, 7, 8, 9, 10, 17, 18, 19]) (.seq (.seq (.region f131r8 [2, 3, 4, 5, 6, 7, 8, 9, 10, 17, 18, 19, 26]) (.cond (.t 26) (.seq (.seq (.dregion f131r9 [] [] [2, 3, 4, 5, 7, 8, 9, 17, 18, 19, 37]) (.cond (.t 37) .ret .skip)) (.seq (.region f131r10 [2, 3, 4, 5, 6, 7, 8, 17, 18, 19]) (.exit 1))) .skip)) (.seq (.seq (.region f131r11 [2, 3, 4, 5, 6, 7, 8, 9, 10, 17, 18, 19, 44]) (.cond (.t 44) (.exit 1) .skip)) (.seq (.region f131r12 [2, 3, 4, 5, 6, 7, 8, 9, 10, 11, 17, 18, 19]) (.seq (.block 2 (.seq (.region f131r13 [2, 3, 4, 5, 6, 7, 8, 9, 10, 11, 17, 18, 19, 50]) (.cond (.t 50) (.region f131r14 [2, 3, 4, 5, 6, 7, 8, 9, 11, 17, 18, 19]) (.seq (.region f131r15 [2, 3, 4, 5, 6, 7, 8, 9, 11, 17, 18, 19, 61]) (.cond (.t 61) (.region f131r16 [2, 3, 4, 5, 6, 7, 8, 9, 11, 17, 18, 19]) (.exit 1)))))) (.seq (.seq (.region f131r17 [2, 3, 4, 5, 6, 7, 8, 9, 17, 18, 19, 88]) (.cond (.t 88) .ret .skip)) (.region f131r18 [2, 3, 4, 5, 6, 7, 8, 17, 18, 19])))))))) (.region f131r19 [2, 3, 4, 5, 6, 7, 8, 17, 18, 19]))))
def f131L0 : RC := .loop [2, 3, 4, 5, 6, 7, 8, 17, 18, 19] f131B0
@[simp] def f131r20 : List ROper := [
  ⟨some 91, .mv (.t 8), none⟩,
  ⟨some 92, .load 1 false (.t 2), none⟩,
  ⟨some 93, .len .slice (.t 92), none⟩,
  ⟨some 94, .callv (.t 91) [(.t 93)], none⟩]
def f131 : RFunc := ⟨[], (.seq (.region f131r0 [1, 2, 3]) (.seq (.region f131r1 [1, 2, 3, 4]) (.seq (.region f131r2 [2, 3, 4, 5]) (.seq (.region f131r3 [2, 3, 4, 5, 6, 7]) (.seq (.region f131r4 [2, 3, 4, 5, 6, 7, 8]) (.seq (.seq (.region f131r5 [2, 3, 4, 5, 6, 7, 8, 17, 18, 19]) (.block 0 f131L0)) (.region f131r20 []))))))), false⟩

/-! quire/item.words -/
@[simp] def f132r0 : List ROper := [
  ⟨some 2, .box 21 (.t 0), none⟩,
  ⟨some 4, .mv (.c (.list 0 0 .no false [])), none⟩]
@[simp] def f132r1 : List ROper := [
  ⟨some 14, .mv (.t 1), none⟩,
  ⟨some 15, .len .slice (.t 14), none⟩,
  ⟨some 16, .bin .add (.t 15) (.c (.int .i64 (.ofNat 1))), none⟩,
  ⟨some 17, .mkslice 1 false 1 [(.bool false)] (.t 16) (.t 16), none⟩,
  ⟨some 5, .mv (.t 17), none⟩]
@[simp] def f132r2 : List ROper := [
  ⟨some 18, .faddr 2 (.t 2), none⟩,
  ⟨some 19, .faddr 12 (.t 18), none⟩,
  ⟨some 20, .load 1 false (.t 19), none⟩,
  ⟨some 21, .bin .eql (.t 20) (.c (.int .i64 (.ofNat 0))), none⟩]
@[simp] def f132r3 : List ROper := [
  ⟨some 22, .mv (.t 5), none⟩,
  ⟨some 4, .mv (.t 22), none⟩]
@[simp] def f132r4 : List ROper := [
  ⟨some 23, .call 143 [], none⟩,
  ⟨some 6, .mv (.t 23), none⟩]
@[simp] def f132r5 : List ROper := [
  ⟨some 7, .mv (.c (.int .i64 (.ofNat 0))), none⟩]
@[simp] def f132r6 : List ROper := [
  ⟨some 24, .mv (.t 7), none⟩,
  ⟨some 25, .mv (.t 1), none⟩,
  ⟨some 26, .len .slice (.t 25), none⟩,
  ⟨some 27, .bin .lss (.t 24) (.t 26), none⟩]
@[simp] def f132r7 : List ROper := [
  ⟨some 28, .mv (.t 1), none⟩,
  ⟨some 29, .mv (.t 7), none⟩,
  ⟨some 30, .iaddr 6 (.t 28) (.t 29), none⟩,
  ⟨some 31, .faddr 2 (.t 30), none⟩,
  ⟨some 32, .load 1 false (.t 31), none⟩,
  ⟨some 33, .bin .neq (.t 32) (.c (.int .i64 (.ofNat 1))), none⟩]
@[simp] def f132r8 : List ROper := [
  ⟨some 34, .mv (.t 7), none⟩,
  ⟨some 35, .bin .add (.t 34) (.c (.int .i64 (.ofNat 1))), none⟩,
  ⟨some 7, .mv (.t 35), none⟩]
@[simp] def f132r9 : List ROper := [
  ⟨some 36, .mv (.t 7), none⟩,
  ⟨some 8, .mv (.t 36), none⟩]
@[simp] def f132r10 : List ROper := [
  ⟨some 9, .mv (.c (.list 0 0 .no false [])), none⟩]
@[simp] def f132r11 : List ROper := [
  ⟨some 37, .mv (.t 8), none⟩,
  ⟨some 38, .mv (.t 1), none⟩,
  ⟨some 39, .len .slice (.t 38), none⟩,
  ⟨some 40, .bin .lss (.t 37) (.t 39), none⟩,
  ⟨some 41, .mv (.t 40), none⟩,
  ⟨some 42, .mv (.t 1), some (41, true)⟩,
  ⟨some 43, .mv (.t 8), some (41, true)⟩,
  ⟨some 44, .iaddr 6 (.t 42) (.t 43), some (41, true)⟩,
  ⟨some 45, .faddr 2 (.t 44), some (41, true)⟩,
  ⟨some 46, .load 1 false (.t 45), some (41, true)⟩,
  ⟨some 47, .bin .eql (.t 46) (.c (.int .i64 (.ofNat 1))), some (41, true)⟩,
  ⟨some 48, .pick (.t 41) (.t 47) (.c (.bool false)), none⟩,
  ⟨some 49, .mv (.t 48), none⟩,
  ⟨some 50, .mv (.t 1), some (49, true)⟩,
  ⟨some 51, .mv (.t 8), some (49, true)⟩,
  ⟨some 52, .iaddr 6 (.t 50) (.t 51), some (49, true)⟩,
  ⟨some 53, .faddr 3 (.t 52), some (49, true)⟩,
  ⟨some 54, .load 1 false (.t 53), some (49, true)⟩,
  ⟨some 55, .mv (.t 1), some (49, true)⟩,
  ⟨some 56, .mv (.t 7), some (49, true)⟩,
  ⟨some 57, .iaddr 6 (.t 55) (.t 56), some (49, true)⟩,
  ⟨some 58, .faddr 3 (.t 57), some (49, true)⟩,
  ⟨some 59, .load 1 false (.t 58), some (49, true)⟩,
  ⟨some 60, .bin .eql (.t 54) (.t 59), some (49, true)⟩,
  ⟨some 61, .pick (.t 49) (.t 60) (.c (.bool false)), none⟩]
@[simp] def f132r12 : List ROper := [
  ⟨some 62, .mv (.t 9), none⟩,
  ⟨some 63, .faddr 0 (.t 2), none⟩,
  ⟨some 64, .load 1 false (.t 63), none⟩,
  ⟨some 65, .mv (.t 1), none⟩,
  ⟨some 66, .mv (.t 8), none⟩,
  ⟨some 67, .iaddr 6 (.t 65) (.t 66), none⟩,
  ⟨some 68, .faddr 0 (.t 67), none⟩,
  ⟨some 69, .load 1 false (.t 68), none⟩,
  ⟨some 70, .index (.t 64) (.t 69), none⟩,
  ⟨some 71, .lit 1 false [(.int .u8 (.ofNat 0))] 1 [(0, (.t 70))], none⟩,
  ⟨some 72, .append 1 false 1 (.t 62) (.t 71), none⟩,
  ⟨some 9, .mv (.t 72), none⟩]
@[simp] def f132r13 : List ROper := [
  ⟨some 73, .mv (.t 8), none⟩,
  ⟨some 74, .bin .add (.t 73) (.c (.int .i64 (.ofNat 1))), none⟩,
  ⟨some 8, .mv (.t 74), none⟩]
def f132B0 : RC := (.seq (.seq (.dregion f132r11 [] [] [1, 2, 5, 6, 7, 8, 9, 61]) (.cond (.t 61) .skip (.exit 2))) (.block 3 (.seq (.dregion f132r12 [] [] [1, 2, 5, 6, 7, 8, 9]) (.region f132r13 [1, 2, 5, 6, 7, 8, 9]))))
def f132L0 : RC := .loop [1, 2, 5, 6, 7, 8, 9] f132B0
@[simp] def f132r14 : List ROper := [
  ⟨some 76, .mv (.t 6), none⟩,
  ⟨some 77, .mv (.t 9), none⟩,
  ⟨some 78, .b2s (.t 77), none⟩,
  ⟨some 79, .call 144 [(.t 76), (.t 78)], none⟩,
  ⟨some 75, .mv (.t 79), none⟩,
  ⟨some 80, .extract (.t 75) 0, none⟩,
  ⟨some 81, .extract (.t 75) 1, none⟩,
  ⟨some 10, .mv (.t 80), none⟩,
  ⟨some 11, .mv (.t 81), none⟩]
@[simp] def f132r15 : List ROper := [
  ⟨some 82, .mv (.t 10), none⟩,
  ⟨some 83, .len .slice (.t 82), none⟩,
  ⟨some 84, .mv (.c (.int .i64 (.ofNat 0))), none⟩]
@[simp] def f132r16 : List ROper := [
  ⟨some 85, .bin .lss (.t 84) (.t 83), none⟩]
@[simp] def f132r17 : List ROper := [
  ⟨some 86, .iaddr 1 (.t 82) (.t 84), none⟩,
  ⟨some 87, .load 1 false (.t 86), none⟩,
  ⟨some 13, .mv (.t 87), none⟩]
@[simp] def f132r18 : List ROper := [
  ⟨some 88, .mv (.t 5), none⟩,
  ⟨some 89, .mv (.t 7), none⟩,
  ⟨some 90, .mv (.t 13), none⟩,
  ⟨some 91, .bin .add (.t 89) (.t 90), none⟩,
  ⟨some 92, .iaddr 1 (.t 88) (.t 91), none⟩,
  ⟨none, .store 1 (.t 92) (.c (.bool true)), none⟩]
@[simp] def f132r19 : List ROper := [
  ⟨some 93, .bin .add (.t 84) (.c (.int .i64 (.ofNat 1))), none⟩,
  ⟨some 84, .mv (.t 93), none⟩]
def f132B1 : RC := (.seq (.region f132r16 [1, 2, 5, 6, 7, 8, 82, 83, 84, 85]) (.seq (.cond (.t 85) .skip (.exit 4)) (.seq (.block 5 (.seq (.region f132r17 [1, 2, 5, 6, 7, 8, 13, 82, 83, 84]) (.region f132r18 [1, 2, 5, 6, 7, 8, 82, 83, 84]))) (.region f132r19 [1, 2, 5, 6, 7, 8, 82, 83, 84]))))
def f132L1 : RC := .loop [1, 2, 5, 6, 7, 8, 82, 83, 84] f132B1
@[simp] def f132r20 : List ROper := [
  ⟨some 94, .mv (.t 8), none⟩,
  ⟨some 7, .mv (.t 94), none⟩]
def f132B2 : RC := (.seq (.seq (.region f132r6 [1, 2, 5, 6, 7, 27]) (.cond (.t 27) .skip (.exit 0))) (.block 1 (.seq (.seq (.region f132r7 [1, 2, 5, 6, 7, 33]) (.cond (.t 33) (.seq (.region f132r8 [1, 2, 5, 6, 7]) (.exit 1)) .skip)) (.seq (.region f132r9 [1, 2, 5, 6, 7, 8]) (.seq (.region f132r10 [1, 2, 5, 6, 7, 8, 9]) (.seq (.block 2 f132L0) (.seq (.region f132r14 [1, 2, 5, 6, 7, 8, 10]) (.seq (.seq (.region f132r15 [1, 2, 5, 6, 7, 8, 82, 83, 84]) (.block 4 f132L1)) (.region f132r20 [1, 2, 5, 6, 7])))))))))
def f132L2 : RC := .loop [1, 2, 5, 6, 7] f132B2
@[simp] def f132r21 : List ROper := [
  ⟨some 95, .mv (.t 5), none⟩,
  ⟨some 4, .mv (.t 95), none⟩]
def f132 : RFunc := ⟨[.t 4], (.seq (.region f132r0 [1, 2]) (.seq (.region f132r1 [1, 2, 5]) (.seq (.seq (.region f132r2 [1, 2, 5, 21]) (.cond (.t 21) (.seq (.region f132r3 [4]) .ret) .skip)) (.seq (.region f132r4 [1, 2, 5, 6]) (.seq (.seq (.region f132r5 [1, 2, 5, 6, 7]) (.block 0 f132L2)) (.seq (.region f132r21 [4]) .ret)))))), true⟩

/-! quire/item.walk$1$1 -/
@[simp] def f133r0 : List ROper := [
  ⟨some 4, .mv (.c (.bool false)), none⟩]
@[simp] def f133r1 : List ROper := [
  ⟨some 5, .load 1 false (.t 1), none⟩,
  ⟨some 6, .mv (.t 0), none⟩,
  ⟨some 7, .iaddr 6 (.t 5) (.t 6), none⟩,
  ⟨some 8, .faddr 2 (.t 7), none⟩,
  ⟨some 9, .load 1 false (.t 8), none⟩,
  ⟨some 10, .bin .eql (.t 9) (.c (.int .i64 (.ofNat 2))), none⟩,
  ⟨some 11, .mv (.t 10), none⟩,
  ⟨some 12, .faddr 0 (.t 2), some (11, true)⟩,
  ⟨some 13, .load 1 false (.t 12), some (11, true)⟩,
  ⟨some 14, .load 1 false (.t 1), some (11, true)⟩,
  ⟨some 15, .mv (.t 0), some (11, true)⟩,
  ⟨some 16, .iaddr 6 (.t 14) (.t 15), some (11, true)⟩,
  ⟨some 17, .faddr 0 (.t 16), some (11, true)⟩,
  ⟨some 18, .load 1 false (.t 17), some (11, true)⟩,
  ⟨some 19, .index (.t 13) (.t 18), some (11, true)⟩,
  ⟨some 20, .bin .eql (.t 19) (.c (.int .u8 (.ofNat 45))), some (11, true)⟩,
  ⟨some 21, .pick (.t 11) (.t 20) (.c (.bool false)), none⟩,
  ⟨some 4, .mv (.t 21), none⟩]
def f133 : RFunc := ⟨[.t 4], (.seq (.region f133r0 [0, 1, 2]) (.seq (.dregion f133r1 [] [] [4]) .ret)), false⟩

/-! quire/item.walk$1$2 -/
@[simp] def f134r0 : List ROper := [
  ⟨some 5, .mv (.c (.bool false)), none⟩]
@[simp] def f134r1 : List ROper := [
  ⟨some 6, .load 1 false (.t 1), none⟩,
  ⟨some 7, .mv (.t 0), none⟩,
  ⟨some 8, .bin .geq (.t 6) (.t 7), none⟩,
  ⟨some 9, .mv (.t 8), none⟩,
  ⟨some 10, .load 1 false (.t 2), some (9, false)⟩,
  ⟨some 11, .load 1 false (.t 3), some (9, false)⟩,
  ⟨some 12, .load 1 false (.t 1), some (9, false)⟩,
  ⟨some 13, .mv (.t 0), some (9, false)⟩,
  ⟨some 14, .call 135 [(.t 11), (.t 12), (.t 13)], some (9, false)⟩,
  ⟨some 15, .callv (.t 10) [(.t 14)], some (9, false)⟩,
  ⟨some 16, .pick (.t 9) (.c (.bool true)) (.t 15), none⟩,
  ⟨some 5, .mv (.t 16), none⟩]
def f134 : RFunc := ⟨[.t 5], (.seq (.region f134r0 [0, 1, 2, 3]) (.seq (.dregion f134r1 [] [] [5]) .ret)), false⟩

/-! quire/item.box -/
@[simp] def f135r0 : List ROper := [
  ⟨some 6, .alloc [(.int .i64 (.ofNat 0)), (.int .i64 (.ofNat 0)), (.int .i64 (.ofNat 0)), (.int .i64 (.ofNat 0)), (.int .i64 (.ofNat 0)), (.int .i64 (.ofNat 0)), (.int .i64 (.ofNat 0)), (.bool false)], none⟩]
@[simp] def f135r1 : List ROper := [
  ⟨some 10, .mv (.t 0), none⟩,
  ⟨some 11, .mv (.t 1), none⟩,
  ⟨some 12, .mv (.t 2), none⟩,
  ⟨some 13, .call 23 [(.t 10), (.t 11), (.t 12)], none⟩,
  ⟨some 9, .mv (.t 13), none⟩,
  ⟨some 14, .extract (.t 9) 0, none⟩,
  ⟨some 15, .extract (.t 9) 1, none⟩,
  ⟨some 7, .mv (.t 14), none⟩,
  ⟨some 8, .mv (.t 15), none⟩]
@[simp] def f135r2 : List ROper := [
  ⟨some 16, .mv (.t 0), none⟩,
  ⟨some 17, .mv (.t 1), none⟩,
  ⟨some 18, .iaddr 6 (.t 16) (.t 17), none⟩,
  ⟨some 19, .faddr 0 (.t 18), none⟩,
  ⟨some 20, .load 1 false (.t 19), none⟩,
  ⟨some 21, .mv (.t 0), none⟩,
  ⟨some 22, .mv (.t 2), none⟩,
  ⟨some 23, .bin .sub (.t 22) (.c (.int .i64 (.ofNat 1))), none⟩,
  ⟨some 24, .iaddr 6 (.t 21) (.t 23), none⟩,
  ⟨some 25, .faddr 1 (.t 24), none⟩,
  ⟨some 26, .load 1 false (.t 25), none⟩,
  ⟨some 27, .mv (.t 7), none⟩,
  ⟨some 28, .build [(.int .i64 (.ofNat 0)), (.int .i64 (.ofNat 0)), (.int .i64 (.ofNat 0)), (.int .i64 (.ofNat 0)), (.int .i64 (.ofNat 0)), (.int .i64 (.ofNat 0)), (.int .i64 (.ofNat 0)), (.bool false)] [(0, 1, (.c (.int .i64 (.ofNat 1)))), (1, 1, (.t 20)), (2, 1, (.t 26)), (3, 1, (.t 27))], none⟩,
  ⟨none, .store 8 (.t 6) (.t 28), none⟩]
def f135 : RFunc := ⟨[.cell 6 8 true], (.seq (.region f135r0 [0, 1, 2, 6]) (.seq (.region f135r1 [0, 1, 2, 6, 7]) (.seq (.dregion f135r2 [] [] [6]) .ret))), true⟩

/-! quire/item.boxed -/
@[simp] def f136r0 : List ROper := [
  ⟨some 1, .box 6 (.t 0), none⟩,
  ⟨some 2, .mv (.c (.bool false)), none⟩]
@[simp] def f136r1 : List ROper := [
  ⟨some 3, .faddr 2 (.t 1), none⟩,
  ⟨some 4, .load 1 false (.t 3), none⟩,
  ⟨some 5, .bin .neq (.t 4) (.c (.int .i64 (.ofNat 3))), none⟩,
  ⟨some 6, .mv (.t 5), none⟩,
  ⟨some 7, .faddr 2 (.t 1), some (6, true)⟩,
  ⟨some 8, .load 1 false (.t 7), some (6, true)⟩,
  ⟨some 9, .bin .neq (.t 8) (.c (.int .i64 (.ofNat 4))), some (6, true)⟩,
  ⟨some 10, .pick (.t 6) (.t 9) (.c (.bool false)), none⟩,
  ⟨some 11, .mv (.t 10), none⟩,
  ⟨some 12, .faddr 2 (.t 1), some (11, true)⟩,
  ⟨some 13, .load 1 false (.t 12), some (11, true)⟩,
  ⟨some 14, .bin .neq (.t 13) (.c (.int .i64 (.ofNat 5))), some (11, true)⟩,
  ⟨some 15, .pick (.t 11) (.t 14) (.c (.bool false)), none⟩,
  ⟨some 2, .mv (.t 15), none⟩]
def f136 : RFunc := ⟨[.t 2], (.seq (.region f136r0 [1]) (.seq (.region f136r1 [2]) .ret)), true⟩

/-! quire/item.lone -/
@[simp] def f137r0 : List ROper := [
  ⟨some 1, .box 6 (.t 0), none⟩,
  ⟨some 2, .alloc [(.int .i64 (.ofNat 0)), (.int .i64 (.ofNat 0)), (.int .i64 (.ofNat 0)), (.int .i64 (.ofNat 0)), (.int .i64 (.ofNat 0)), (.int .i64 (.ofNat 0)), (.int .i64 (.ofNat 0)), (.bool false)], none⟩]
@[simp] def f137r1 : List ROper := [
  ⟨some 3, .faddr 2 (.t 1), none⟩,
  ⟨some 4, .load 1 false (.t 3), none⟩]
@[simp] def f137r2 : List ROper := [
  ⟨some 6, .bin .eql (.t 4) (.c (.int .i64 (.ofNat 3))), none⟩,
  ⟨some 5, .mv (.t 6), none⟩]
@[simp] def f137r3 : List ROper := [
  ⟨some 7, .faddr 0 (.t 1), none⟩,
  ⟨some 8, .load 1 false (.t 7), none⟩,
  ⟨some 9, .faddr 1 (.t 1), none⟩,
  ⟨some 10, .load 1 false (.t 9), none⟩,
  ⟨some 11, .faddr 4 (.t 1), none⟩,
  ⟨some 12, .load 1 false (.t 11), none⟩,
  ⟨some 13, .faddr 4 (.t 1), none⟩,
  ⟨some 14, .load 1 false (.t 13), none⟩,
  ⟨some 15, .bin .quo (.t 14) (.c (.int .i64 (.ofNat 2))), none⟩,
  ⟨some 16, .faddr 4 (.t 1), none⟩,
  ⟨some 17, .load 1 false (.t 16), none⟩,
  ⟨some 18, .bin .quo (.t 17) (.c (.int .i64 (.ofNat 3))), none⟩,
  ⟨some 19, .build [(.int .i64 (.ofNat 0)), (.int .i64 (.ofNat 0)), (.int .i64 (.ofNat 0)), (.int .i64 (.ofNat 0)), (.int .i64 (.ofNat 0)), (.int .i64 (.ofNat 0)), (.int .i64 (.ofNat 0)), (.bool false)] [(0, 1, (.c (.int .i64 (.ofNat 2)))), (1, 1, (.t 8)), (2, 1, (.t 10)), (3, 1, (.t 12)), (4, 1, (.t 15)), (5, 1, (.t 18))], none⟩,
  ⟨none, .store 8 (.t 2) (.t 19), none⟩]
@[simp] def f137r4 : List ROper := [
  ⟨some 21, .bin .eql (.t 4) (.c (.int .i64 (.ofNat 4))), none⟩,
  ⟨some 20, .mv (.t 21), none⟩]
@[simp] def f137r5 : List ROper := [
  ⟨some 22, .faddr 0 (.t 1), none⟩,
  ⟨some 23, .load 1 false (.t 22), none⟩,
  ⟨some 24, .faddr 1 (.t 1), none⟩,
  ⟨some 25, .load 1 false (.t 24), none⟩,
  ⟨some 26, .build [(.int .i64 (.ofNat 0)), (.int .i64 (.ofNat 0)), (.int .i64 (.ofNat 0)), (.int .i64 (.ofNat 0)), (.int .i64 (.ofNat 0)), (.int .i64 (.ofNat 0)), (.int .i64 (.ofNat 0)), (.bool false)] [(0, 1, (.c (.int .i64 (.ofNat 4)))), (1, 1, (.t 23)), (2, 1, (.t 25))], none⟩,
  ⟨none, .store 8 (.t 2) (.t 26), none⟩]
@[simp] def f137r6 : List ROper := [
  ⟨some 27, .faddr 0 (.t 1), none⟩,
  ⟨some 28, .load 1 false (.t 27), none⟩,
  ⟨some 29, .faddr 1 (.t 1), none⟩,
  ⟨some 30, .load 1 false (.t 29), none⟩,
  ⟨some 31, .faddr 3 (.t 1), none⟩,
  ⟨some 32, .load 1 false (.t 31), none⟩,
  ⟨some 33, .call 138 [(.t 32)], none⟩,
  ⟨some 34, .build [(.int .i64 (.ofNat 0)), (.int .i64 (.ofNat 0)), (.int .i64 (.ofNat 0)), (.int .i64 (.ofNat 0)), (.int .i64 (.ofNat 0)), (.int .i64 (.ofNat 0)), (.int .i64 (.ofNat 0)), (.bool false)] [(0, 1, (.c (.int .i64 (.ofNat 3)))), (1, 1, (.t 28)), (2, 1, (.t 30)), (3, 1, (.t 33)), (6, 1, (.c (.int .i64 (.ofNat 50)))), (7, 1, (.c (.bool true)))], none⟩,
  ⟨none, .store 8 (.t 2) (.t 34), none⟩]
def f137 : RFunc := ⟨[.cell 2 8 true], (.seq (.region f137r0 [1, 2]) (.seq (.seq (.region f137r1 [1, 2, 4]) (.block 0 (.seq (.region f137r2 [1, 2, 4, 5]) (.cond (.t 5) (.seq (.region f137r3 [2]) .ret) (.seq (.region f137r4 [1, 2, 20]) (.cond (.t 20) (.seq (.region f137r5 [2]) .ret) .skip)))))) (.seq (.dregion f137r6 [] [] [2]) .ret))), true⟩

/-! quire/item.hyphen -/
@[simp] def f138r0 : List ROper := [
  ⟨some 2, .mv (.c (.int .i64 (.ofNat 0))), none⟩]
@[simp] def f138r1 : List ROper := [
  ⟨some 6, .mv (.t 0), none⟩,
  ⟨some 7, .call 17 [(.c (.str [45])), (.t 6)], none⟩,
  ⟨some 5, .mv (.t 7), none⟩,
  ⟨some 8, .extract (.t 5) 0, none⟩,
  ⟨some 9, .extract (.t 5) 1, none⟩,
  ⟨some 3, .mv (.t 8), none⟩,
  ⟨some 4, .mv (.t 9), none⟩]
@[simp] def f138r2 : List ROper := [
  ⟨some 10, .mv (.t 3), none⟩,
  ⟨some 2, .mv (.t 10), none⟩]
def f138 : RFunc := ⟨[.t 2], (.seq (.region f138r0 [0]) (.seq (.region f138r1 [3]) (.seq (.region f138r2 [2]) .ret))), true⟩

/-! quire/tab.Next -/
@[simp] def f139r0 : List ROper := [
  ⟨some 4, .alloc [(.int .i64 (.ofNat 0)), (.int .i64 (.ofNat 0))], none⟩,
  ⟨some 5, .mv (.c (.int .i64 (.ofNat 0))), none⟩]
@[simp] def f139r1 : List ROper := [
  ⟨some 7, .mv (.t 0), none⟩,
  ⟨some 8, .call 145 [(.t 7)], none⟩,
  ⟨some 6, .mv (.t 8), none⟩]
@[simp] def f139r2 : List ROper := [
  ⟨some 9, .mv (.t 6), none⟩,
  ⟨some 10, .bin .neq (.t 9) (.c (.int .i64 (.ofNat 0))), none⟩]
@[simp] def f139r3 : List ROper := [
  ⟨some 11, .build [(.int .i64 (.ofNat 0)), (.int .i64 (.ofNat 0))] [], none⟩,
  ⟨some 12, .mv (.t 6), none⟩,
  ⟨none, .store 2 (.t 4) (.t 11), none⟩,
  ⟨some 5, .mv (.t 12), none⟩]
@[simp] def f139r4 : List ROper := [
  ⟨some 13, .mv (.t 1), none⟩,
  ⟨some 14, .bin .lss (.t 13) (.c (.int .i64 (.ofNat 0))), none⟩,
  ⟨some 15, .mv (.t 14), none⟩,
  ⟨some 16, .mv (.t 1), some (15, false)⟩,
  ⟨some 17, .bin .gtr (.t 16) (.c (.int .i64 (.ofNat 8190))), some (15, false)⟩,
  ⟨some 18, .pick (.t 15) (.c (.bool true)) (.t 17), none⟩]
@[simp] def f139r5 : List ROper := [
  ⟨some 19, .build [(.int .i64 (.ofNat 0)), (.int .i64 (.ofNat 0))] [], none⟩,
  ⟨none, .store 2 (.t 4) (.t 19), none⟩,
  ⟨some 5, .mv (.c (.int .i64 (.ofNat 5))), none⟩]
@[simp] def f139r6 : List ROper := [
  ⟨some 20, .mv (.t 0), none⟩,
  ⟨some 21, .mv (.t 1), none⟩,
  ⟨some 22, .call 146 [(.t 20), (.t 21)], none⟩,
  ⟨none, .store 2 (.t 4) (.t 22), none⟩,
  ⟨some 5, .mv (.c (.int .i64 (.ofNat 0))), none⟩]
def f139 : RFunc := ⟨[.cell 4 2 true, .t 5], (.seq (.region f139r0 [0, 1, 4]) (.seq (.seq (.region f139r1 [0, 1, 4, 6]) (.seq (.region f139r2 [0, 1, 4, 6, 10]) (.cond (.t 10) (.seq (.region f139r3 [4, 5]) .ret) .skip))) (.seq (.seq (.region f139r4 [0, 1, 4, 18]) (.cond (.t 18) (.seq (.region f139r5 [4, 5]) .ret) .skip)) (.seq (.region f139r6 [4, 5]) .ret)))), true⟩

/-! quire/first.may -/
@[simp] def f140r0 : List ROper := [
  ⟨some 1, .box 2 (.t 0), none⟩,
  ⟨some 2, .mv (.c (.bool false)), none⟩]
@[simp] def f140r1 : List ROper := [
  ⟨some 3, .faddr 0 (.t 1), none⟩,
  ⟨some 4, .load 1 false (.t 3), none⟩,
  ⟨some 5, .bin .geq (.t 4) (.c (.int .i64 (.ofNat 0))), none⟩,
  ⟨some 6, .mv (.t 5), none⟩,
  ⟨some 7, .faddr 0 (.t 1), some (6, true)⟩,
  ⟨some 8, .load 1 false (.t 7), some (6, true)⟩,
  ⟨some 9, .bin .leq (.t 8) (.c (.int .i64 (.ofNat 4095))), some (6, true)⟩,
  ⟨some 10, .pick (.t 6) (.t 9) (.c (.bool false)), none⟩,
  ⟨some 11, .mv (.t 10), none⟩,
  ⟨some 12, .faddr 1 (.t 1), some (11, true)⟩,
  ⟨some 13, .load 1 false (.t 12), some (11, true)⟩,
  ⟨some 14, .bin .geq (.t 13) (.c (.int .i64 (.ofNat 0))), some (11, true)⟩,
  ⟨some 15, .pick (.t 11) (.t 14) (.c (.bool false)), none⟩,
  ⟨some 16, .mv (.t 15), none⟩,
  ⟨some 17, .faddr 1 (.t 1), some (16, true)⟩,
  ⟨some 18, .load 1 false (.t 17), some (16, true)⟩,
  ⟨some 19, .bin .leq (.t 18) (.c (.int .i64 (.ofNat 4095))), some (16, true)⟩,
  ⟨some 20, .pick (.t 16) (.t 19) (.c (.bool false)), none⟩,
  ⟨some 2, .mv (.t 20), none⟩]
def f140 : RFunc := ⟨[.t 2], (.seq (.region f140r0 [1]) (.seq (.region f140r1 [2]) .ret)), true⟩

/-! (*quire/first.breaker).legal -/
@[simp] def f141r0 : List ROper := [
  ⟨some 4, .mv (.c (.bool false)), none⟩]
@[simp] def f141r1 : List ROper := [
  ⟨some 5, .mv (.t 1), none⟩,
  ⟨some 6, .mv (.t 0), none⟩,
  ⟨some 7, .nilchk (.t 6), none⟩,
  ⟨some 8, .faddr 0 (.t 7), none⟩,
  ⟨some 9, .load 1 false (.t 8), none⟩,
  ⟨some 10, .len .slice (.t 9), none⟩,
  ⟨some 11, .bin .eql (.t 5) (.t 10), none⟩,
  ⟨some 12, .mv (.t 11), none⟩,
  ⟨some 13, .mv (.t 0), some (12, false)⟩,
  ⟨some 14, .nilchk (.t 13), some (12, false)⟩,
  ⟨some 15, .faddr 0 (.t 14), some (12, false)⟩,
  ⟨some 16, .load 1 false (.t 15), some (12, false)⟩,
  ⟨some 17, .mv (.t 1), some (12, false)⟩,
  ⟨some 18, .iaddr 8 (.t 16) (.t 17), some (12, false)⟩,
  ⟨some 19, .faddr 0 (.t 18), some (12, false)⟩,
  ⟨some 20, .load 1 false (.t 19), some (12, false)⟩,
  ⟨some 21, .bin .eql (.t 20) (.c (.int .i64 (.ofNat 3))), some (12, false)⟩,
  ⟨some 22, .pick (.t 12) (.c (.bool true)) (.t 21), none⟩]
@[simp] def f141r2 : List ROper := [
  ⟨some 4, .mv (.c (.bool true)), none⟩]
@[simp] def f141r3 : List ROper := [
  ⟨some 23, .mv (.t 0), none⟩,
  ⟨some 24, .nilchk (.t 23), none⟩,
  ⟨some 25, .faddr 0 (.t 24), none⟩,
  ⟨some 26, .load 1 false (.t 25), none⟩,
  ⟨some 27, .mv (.t 1), none⟩,
  ⟨some 28, .iaddr 8 (.t 26) (.t 27), none⟩,
  ⟨some 29, .faddr 0 (.t 28), none⟩,
  ⟨some 30, .load 1 false (.t 29), none⟩,
  ⟨some 31, .bin .eql (.t 30) (.c (.int .i64 (.ofNat 2))), none⟩,
  ⟨some 32, .mv (.t 31), none⟩,
  ⟨some 33, .mv (.t 1), some (32, true)⟩,
  ⟨some 34, .bin .gtr (.t 33) (.c (.int .i64 (.ofNat 0))), some (32, true)⟩,
  ⟨some 35, .pick (.t 32) (.t 34) (.c (.bool false)), none⟩,
  ⟨some 36, .mv (.t 35), none⟩,
  ⟨some 37, .mv (.t 0), some (36, true)⟩,
  ⟨some 38, .nilchk (.t 37), some (36, true)⟩,
  ⟨some 39, .faddr 0 (.t 38), some (36, true)⟩,
  ⟨some 40, .load 1 false (.t 39), some (36, true)⟩,
  ⟨some 41, .mv (.t 1), some (36, true)⟩,
  ⟨some 42, .bin .sub (.t 41) (.c (.int .i64 (.ofNat 1))), some (36, true)⟩,
  ⟨some 43, .iaddr 8 (.t 40) (.t 42), some (36, true)⟩,
  ⟨some 44, .faddr 0 (.t 43), some (36, true)⟩,
  ⟨some 45, .load 1 false (.t 44), some (36, true)⟩,
  ⟨some 46, .bin .neq (.t 45) (.c (.int .i64 (.ofNat 2))), some (36, true)⟩,
  ⟨some 47, .pick (.t 36) (.t 46) (.c (.bool false)), none⟩,
  ⟨some 4, .mv (.t 47), none⟩]
def f141 : RFunc := ⟨[.t 4], (.seq (.region f141r0 [0, 1]) (.seq (.seq (.region f141r1 [0, 1, 22]) (.cond (.t 22) (.seq (.region f141r2 [4]) .ret) .skip)) (.seq (.region f141r3 [4]) .ret))), false⟩

/-! (*quire/first.breaker).past -/
@[simp] def f142r0 : List ROper := [
  ⟨some 6, .mv (.c (.int .i64 (.ofNat 0))), none⟩]
@[simp] def f142r1 : List ROper := [
  ⟨some 9, .mv (.t 0), none⟩,
  ⟨some 10, .nilchk (.t 9), none⟩,
  ⟨some 11, .faddr 0 (.t 10), none⟩,
  ⟨some 12, .load 1 false (.t 11), none⟩,
  ⟨some 13, .mv (.t 1), none⟩,
  ⟨some 14, .iaddr 8 (.t 12) (.t 13), none⟩,
  ⟨some 15, .faddr 0 (.t 14), none⟩,
  ⟨some 16, .load 1 false (.t 15), none⟩]
@[simp] def f142r2 : List ROper := [
  ⟨some 18, .bin .eql (.t 16) (.c (.int .i64 (.ofNat 1))), none⟩,
  ⟨some 17, .mv (.t 18), none⟩]
@[simp] def f142r3 : List ROper := [
  ⟨some 19, .bin .eql (.t 16) (.c (.int .i64 (.ofNat 2))), none⟩,
  ⟨some 17, .mv (.t 19), none⟩]
@[simp] def f142r4 : List ROper := [
  ⟨some 20, .mv (.t 2), none⟩,
  ⟨some 21, .mv (.t 0), none⟩,
  ⟨some 22, .nilchk (.t 21), none⟩,
  ⟨some 23, .faddr 0 (.t 22), none⟩,
  ⟨some 24, .load 1 false (.t 23), none⟩,
  ⟨some 25, .mv (.t 1), none⟩,
  ⟨some 26, .iaddr 8 (.t 24) (.t 25), none⟩,
  ⟨some 27, .faddr 3 (.t 26), none⟩,
  ⟨some 28, .load 1 false (.t 27), none⟩,
  ⟨some 29, .bin .add (.t 20) (.t 28), none⟩,
  ⟨some 6, .mv (.t 29), none⟩]
@[simp] def f142r5 : List ROper := [
  ⟨some 31, .bin .eql (.t 16) (.c (.int .i64 (.ofNat 4))), none⟩,
  ⟨some 30, .mv (.t 31), none⟩]
@[simp] def f142r6 : List ROper := [
  ⟨some 33, .mv (.t 0), none⟩,
  ⟨some 34, .nilchk (.t 33), none⟩,
  ⟨some 35, .faddr 0 (.t 34), none⟩,
  ⟨some 36, .load 1 false (.t 35), none⟩,
  ⟨some 37, .mv (.t 1), none⟩,
  ⟨some 38, .mv (.t 1), none⟩,
  ⟨some 39, .bin .add (.t 38) (.c (.int .i64 (.ofNat 1))), none⟩,
  ⟨some 40, .slice false 8 (.t 36) (some (.t 37)) (some (.t 39)) none, none⟩,
  ⟨some 41, .mv (.t 2), none⟩,
  ⟨some 42, .min [(.t 41), (.c (.int .i64 (.ofNat 4095)))], none⟩,
  ⟨some 43, .call 110 [(.t 40), (.c (.int .i64 (.ofNat 0))), (.c (.int .i64 (.ofNat 1))), (.t 42)], none⟩,
  ⟨some 32, .mv (.t 43), none⟩,
  ⟨some 44, .extract (.t 32) 0, none⟩,
  ⟨some 45, .extract (.t 32) 1, none⟩,
  ⟨some 7, .mv (.t 44), none⟩,
  ⟨some 8, .mv (.t 45), none⟩]
@[simp] def f142r7 : List ROper := [
  ⟨some 46, .mv (.t 2), none⟩,
  ⟨some 47, .bin .gtr (.t 46) (.c (.int .i64 (.ofNat 4095))), none⟩]
@[simp] def f142r8 : List ROper := [
  ⟨some 48, .mv (.t 2), none⟩,
  ⟨some 49, .bin .quo (.t 48) (.c (.int .i64 (.ofNat 48))), none⟩,
  ⟨some 50, .bin .add (.t 49) (.c (.int .i64 (.ofNat 1))), none⟩,
  ⟨some 51, .bin .mul (.t 50) (.c (.int .i64 (.ofNat 48))), none⟩,
  ⟨some 6, .mv (.t 51), none⟩]
@[simp] def f142r9 : List ROper := [
  ⟨some 52, .mv (.t 2), none⟩,
  ⟨some 53, .mv (.t 7), none⟩,
  ⟨some 54, .bin .add (.t 52) (.t 53), none⟩,
  ⟨some 6, .mv (.t 54), none⟩]
@[simp] def f142r10 : List ROper := [
  ⟨some 55, .mv (.t 2), none⟩,
  ⟨some 6, .mv (.t 55), none⟩]
def f142 : RFunc := ⟨[.t 6], (.seq (.region f142r0 [0, 1, 2]) (.seq (.seq (.region f142r1 [0, 1, 2, 16]) (.block 0 (.seq (.seq (.region f142r2 [0, 1, 2, 16, 17]) (.cond (.t 17) .skip (.region f142r3 [0, 1, 2, 16, 17]))) (.cond (.t 17) (.seq (.region f142r4 [6]) .ret) (.seq (.region f142r5 [0, 1, 2, 30]) (.cond (.t 30) (.seq (.region f142r6 [2, 7]) (.seq (.seq (.region f142r7 [2, 7, 47]) (.cond (.t 47) (.seq (.region f142r8 [6]) .ret) .skip)) (.seq (.region f142r9 [6]) .ret))) .skip)))))) (.seq (.region f142r10 [6]) .ret))), false⟩

/-! quire/hyph.Plain -/
@[simp] def f143r0 : List ROper := [
  ⟨some 0, .mv (.c .nilp), none⟩]
@[simp] def f143r1 : List ROper := [
  ⟨some 4, .call 148 [(.c (.str [49, 116, 97, 32, 49, 116, 101, 32, 49, 116, 105, 32, 49, 116, 111, 32, 49, 110, 97, 32, 49, 110, 101, 32, 49, 110, 105, 32, 49, 108, 97, 32, 49, 108, 101, 32, 49, 108, 105, 32, 49, 114, 97, 32, 49, 114, 101, 32, 49, 109, 97, 32, 49, 109, 101, 32, 49, 112, 97, 32, 49, 112, 101, 32, 49, 99, 97, 32, 49, 99, 111, 32, 49, 100, 101, 32, 49, 115, 97, 32, 49, 103, 101, 32, 49, 98, 108, 32, 116, 50, 116, 101, 32, 108, 50, 108, 101, 32, 110, 50, 110, 101, 32, 114, 50, 114, 101, 32, 50, 98, 108, 101, 46, 32, 52, 108, 101, 46, 32, 46, 114, 101, 51, 97, 32, 49, 112, 104, 101]))], none⟩,
  ⟨some 5, .lit 1 false [(.str [])] 3 [(0, (.c (.str [116, 97, 45, 98, 108, 101]))), (1, (.c (.str [112, 114, 111, 45, 106, 101, 99, 116]))), (2, (.c (.str [104, 121, 45, 112, 104, 101, 110, 45, 97, 45, 116, 105, 111, 110])))], none⟩,
  ⟨some 6, .call 147 [(.t 4), (.t 5)], none⟩,
  ⟨some 3, .mv (.t 6), none⟩,
  ⟨some 7, .extract (.t 3) 0, none⟩,
  ⟨some 8, .extract (.t 3) 1, none⟩,
  ⟨some 1, .mv (.t 7), none⟩,
  ⟨some 2, .mv (.t 8), none⟩]
@[simp] def f143r2 : List ROper := [
  ⟨some 9, .mv (.t 1), none⟩,
  ⟨some 0, .mv (.t 9), none⟩]
def f143 : RFunc := ⟨[.t 0], (.seq (.region f143r0 []) (.seq (.region f143r1 [1]) (.seq (.region f143r2 [0]) .ret))), false⟩

/-! (*quire/hyph.Hyph).Points -/
@[simp] def f144r0 : List ROper := [
  ⟨some 4, .mv (.c (.list 0 0 .no false [])), none⟩,
  ⟨some 5, .mv (.c (.int .i64 (.ofNat 0))), none⟩]
@[simp] def f144r1 : List ROper := [
  ⟨some 13, .mv (.t 0), none⟩,
  ⟨some 14, .eq .ptr false (.t 13) (.c .nilp), none⟩,
  ⟨some 15, .mv (.t 14), none⟩,
  ⟨some 16, .mv (.t 0), some (15, false)⟩,
  ⟨some 17, .nilchk (.t 16), some (15, false)⟩,
  ⟨some 18, .faddr 0 (.t 17), some (15, false)⟩,
  ⟨some 19, .load 1 false (.t 18), some (15, false)⟩,
  ⟨some 20, .eq .ptr false (.t 19) (.c .nilp), some (15, false)⟩,
  ⟨some 21, .pick (.t 15) (.c (.bool true)) (.t 20), none⟩]
@[simp] def f144r2 : List ROper := [
  ⟨some 4, .mv (.c (.list 0 0 .no false [])), none⟩,
  ⟨some 5, .mv (.c (.int .i64 (.ofNat 1))), none⟩]
@[simp] def f144r3 : List ROper := [
  ⟨some 23, .mv (.t 1), none⟩,
  ⟨some 24, .call 149 [(.t 23)], none⟩,
  ⟨some 22, .mv (.t 24), none⟩,
  ⟨some 25, .extract (.t 22) 0, none⟩,
  ⟨some 26, .extract (.t 22) 1, none⟩,
  ⟨some 6, .mv (.t 25), none⟩,
  ⟨some 7, .mv (.t 26), none⟩]
@[simp] def f144r4 : List ROper := [
  ⟨some 27, .mv (.t 7), none⟩,
  ⟨some 28, .un .not (.t 27), none⟩]
@[simp] def f144r5 : List ROper := [
  ⟨some 4, .mv (.c (.list 0 0 .no false [])), none⟩,
  ⟨some 5, .mv (.c (.int .i64 (.ofNat 4))), none⟩]
@[simp] def f144r6 : List ROper := [
  ⟨some 30, .mv (.t 0), none⟩,
  ⟨some 31, .nilchk (.t 30), none⟩,
  ⟨some 32, .faddr 1 (.t 31), none⟩,
  ⟨some 33, .load 1 false (.t 32), none⟩,
  ⟨some 34, .mv (.t 6), none⟩,
  ⟨some 35, .lookup [.str] (.list 0 0 .no false []) (.t 33) (.t 34) true, none⟩,
  ⟨some 29, .mv (.t 35), none⟩,
  ⟨some 36, .extract (.t 29) 0, none⟩,
  ⟨some 37, .extract (.t 29) 1, none⟩,
  ⟨some 8, .mv (.t 36), none⟩,
  ⟨some 9, .mv (.t 37), none⟩]
@[simp] def f144r7 : List ROper := [
  ⟨some 38, .mv (.t 9), none⟩]
@[simp] def f144r8 : List ROper := [
  ⟨some 39, .mv (.t 8), none⟩,
  ⟨some 40, .call 150 [(.t 39)], none⟩,
  ⟨some 4, .mv (.t 40), none⟩,
  ⟨some 5, .mv (.c (.int .i64 (.ofNat 0))), none⟩]
@[simp] def f144r9 : List ROper := [
  ⟨some 41, .mv (.t 6), none⟩,
  ⟨some 42, .len .str (.t 41), none⟩,
  ⟨some 43, .bin .add (.t 42) (.c (.int .i64 (.ofNat 3))), none⟩,
  ⟨some 44, .mkslice 1 false 1 [(.int .u8 (.ofNat 0))] (.t 43) (.t 43), none⟩,
  ⟨some 10, .mv (.t 44), none⟩]
@[simp] def f144r10 : List ROper := [
  ⟨some 45, .mv (.t 0), none⟩,
  ⟨some 46, .mv (.t 6), none⟩,
  ⟨some 47, .bin .add (.c (.str [46])) (.t 46), none⟩,
  ⟨some 48, .bin .add (.t 47) (.c (.str [46])), none⟩,
  ⟨some 49, .mv (.t 10), none⟩,
  ⟨some 50, .mkfn 152 [(.t 49)] [], none⟩,
  ⟨some 51, .call 151 [(.t 45), (.t 48), (.t 50)], none⟩]
@[simp] def f144r11 : List ROper := [
  ⟨some 11, .mv (.c (.list 0 0 .no false [])), none⟩]
@[simp] def f144r12 : List ROper := [
  ⟨some 12, .mv (.c (.int .i64 (.ofNat 2))), none⟩]
@[simp] def f144r13 : List ROper := [
  ⟨some 52, .mv (.t 12), none⟩,
  ⟨some 53, .mv (.t 6), none⟩,
  ⟨some 54, .len .str (.t 53), none⟩,
  ⟨some 55, .bin .sub (.t 54) (.c (.int .i64 (.ofNat 3))), none⟩,
  ⟨some 56, .bin .leq (.t 52) (.t 55), none⟩]
@[simp] def f144r14 : List ROper := [
  ⟨some 59, .mv (.t 10), none⟩,
  ⟨some 60, .mv (.t 12), none⟩,
  ⟨some 61, .bin .add (.t 60) (.c (.int .i64 (.ofNat 1))), none⟩,
  ⟨some 62, .iaddr 1 (.t 59) (.t 61), none⟩,
  ⟨some 63, .load 1 false (.t 62), none⟩,
  ⟨some 64, .bin .rem (.t 63) (.c (.int .u8 (.ofNat 2))), none⟩,
  ⟨some 65, .bin .eql (.t 64) (.c (.int .u8 (.ofNat 1))), none⟩]
@[simp] def f144r15 : List ROper := [
  ⟨some 66, .mv (.t 11), none⟩,
  ⟨some 67, .mv (.t 12), none⟩,
  ⟨some 68, .lit 1 false [(.int .i64 (.ofNat 0))] 1 [(0, (.t 67))], none⟩,
  ⟨some 69, .append 1 false 8 (.t 66) (.t 68), none⟩,
  ⟨some 11, .mv (.t 69), none⟩]
@[simp] def f144r16 : List ROper := [
  ⟨some 57, .mv (.t 12), none⟩,
  ⟨some 58, .bin .add (.t 57) (.c (.int .i64 (.ofNat 1))), none⟩,
  ⟨some 12, .mv (.t 58), none⟩]
def f144B0 : RC := (.seq (.seq (.region f144r13 [6, 10, 11, 12, 56]) (.cond (.t 56) .skip (.exit 0))) (.seq (.block 1 (.seq (.region f144r14 [6, 10, 11, 12, 65]) (.cond (.t 65) (.region f144r15 [6, 10, 11, 12]) .skip))) (.region f144r16 [6, 10, 11, 12])))
def f144L0 : RC := .loop [6, 10, 11, 12] f144B0
@[simp] def f144r17 : List ROper := [
  ⟨some 70, .mv (.t 11), none⟩,
  ⟨some 4, .mv (.t 70), none⟩,
  ⟨some 5, .mv (.c (.int .i64 (.ofNat 0))), none⟩]
def f144 : RFunc := ⟨[.t 4, .t 5], (.seq (.region f144r0 [0, 1]) (.seq (.seq (.region f144r1 [0, 1, 21]) (.cond (.t 21) (.seq (.region f144r2 [4, 5]) .ret) .skip)) (.seq (.region f144r3 [0, 6, 7]) (.seq (.seq (.region f144r4 [0, 6, 28]) (.cond (.t 28) (.seq (.region f144r5 [4, 5]) .ret) .skip)) (.seq (.seq (.region f144r6 [0, 6, 8, 9]) (.seq (.region f144r7 [0, 6, 8, 38]) (.cond (.t 38) (.seq (.region f144r8 [4, 5]) .ret) .skip))) (.seq (.region f144r9 [0, 6, 10]) (.seq (.region f144r10 [6, 10]) (.seq (.region f144r11 [6, 10, 11]) (.seq (.seq (.region f144r12 [6, 10, 11, 12]) (.block 0 f144L0)) (.seq (.region f144r17 [4, 5]) .ret)))))))))), false⟩

/-! quire/tab.Check -/
@[simp] def f145r0 : List ROper := [
  ⟨some 2, .mv (.c (.int .i64 (.ofNat 0))), none⟩]
@[simp] def f145r1 : List ROper := [
  ⟨some 6, .mv (.t 0), none⟩,
  ⟨some 7, .len .slice (.t 6), none⟩,
  ⟨some 8, .bin .gtr (.t 7) (.c (.int .i64 (.ofNat 16))), none⟩]
@[simp] def f145r2 : List ROper := [
  ⟨some 2, .mv (.c (.int .i64 (.ofNat 2))), none⟩]
@[simp] def f145r3 : List ROper := [
  ⟨some 3, .mv (.c (.int .i64 (.ofNat 0))), none⟩]
@[simp] def f145r4 : List ROper := [
  ⟨some 9, .mv (.t 0), none⟩,
  ⟨some 10, .len .slice (.t 9), none⟩,
  ⟨some 11, .mv (.c (.int .i64 (.ofNat 0))), none⟩]
@[simp] def f145r5 : List ROper := [
  ⟨some 12, .bin .lss (.t 11) (.t 10), none⟩]
@[simp] def f145r6 : List ROper := [
  ⟨some 13, .iaddr 2 (.t 9) (.t 11), none⟩,
  ⟨some 14, .load 2 true (.t 13), none⟩,
  ⟨some 5, .alloc [(.int .i64 (.ofNat 0)), (.int .i64 (.ofNat 0))], none⟩,
  ⟨none, .store 2 (.t 5) (.t 14), none⟩]
@[simp] def f145r7 : List ROper := [
  ⟨some 15, .faddr 0 (.t 5), none⟩,
  ⟨some 16, .load 1 false (.t 15), none⟩,
  ⟨some 17, .mv (.t 3), none⟩,
  ⟨some 18, .bin .leq (.t 16) (.t 17), none⟩,
  ⟨some 19, .mv (.t 18), none⟩,
  ⟨some 20, .faddr 0 (.t 5), some (19, false)⟩,
  ⟨some 21, .load 1 false (.t 20), some (19, false)⟩,
  ⟨some 22, .bin .gtr (.t 21) (.c (.int .i64 (.ofNat 4095))), some (19, false)⟩,
  ⟨some 23, .pick (.t 19) (.c (.bool true)) (.t 22), none⟩,
  ⟨some 24, .mv (.t 23), none⟩,
  ⟨some 25, .faddr 1 (.t 5), some (24, false)⟩,
  ⟨some 26, .load 1 false (.t 25), some (24, false)⟩,
  ⟨some 27, .bin .neq (.t 26) (.c (.int .i64 (.ofNat 0))), some (24, false)⟩,
  ⟨some 28, .mv (.t 27), some (24, false)⟩,
  ⟨some 29, .faddr 1 (.t 5), some (28, true)⟩,
  ⟨some 30, .load 1 false (.t 29), some (28, true)⟩,
  ⟨some 31, .bin .neq (.t 30) (.c (.int .i64 (.ofNat 2))), some (28, true)⟩,
  ⟨some 32, .pick (.t 28) (.t 31) (.c (.bool false)), some (24, false)⟩,
  ⟨some 33, .mv (.t 32), some (24, false)⟩,
  ⟨some 34, .faddr 1 (.t 5), some (33, true)⟩,
  ⟨some 35, .load 1 false (.t 34), some (33, true)⟩,
  ⟨some 36, .bin .neq (.t 35) (.c (.int .i64 (.ofNat 3))), some (33, true)⟩,
  ⟨some 37, .pick (.t 33) (.t 36) (.c (.bool false)), some (24, false)⟩,
  ⟨some 38, .pick (.t 24) (.c (.bool true)) (.t 37), none⟩]
@[simp] def f145r8 : List ROper := [
  ⟨some 2, .mv (.c (.int .i64 (.ofNat 2))), none⟩]
@[simp] def f145r9 : List ROper := [
  ⟨some 39, .faddr 0 (.t 5), none⟩,
  ⟨some 40, .load 1 false (.t 39), none⟩,
  ⟨some 3, .mv (.t 40), none⟩]
@[simp] def f145r10 : List ROper := [
  ⟨some 41, .bin .add (.t 11) (.c (.int .i64 (.ofNat 1))), none⟩,
  ⟨some 11, .mv (.t 41), none⟩]
def f145B0 : RC := (.seq (.region f145r5 [3, 9, 10, 11, 12]) (.seq (.cond (.t 12) .skip (.exit 0)) (.seq (.block 1 (.seq (.region f145r6 [3, 5, 9, 10, 11]) (.seq (.seq (.region f145r7 [5, 9, 10, 11, 38]) (.cond (.t 38) (.seq (.region f145r8 [2]) .ret) .skip)) (.region f145r9 [3, 9, 10, 11])))) (.region f145r10 [3, 9, 10, 11]))))
def f145L0 : RC := .loop [3, 9, 10, 11] f145B0
@[simp] def f145r11 : List ROper := [
  ⟨some 2, .mv (.c (.int .i64 (.ofNat 0))), none⟩]
def f145 : RFunc := ⟨[.t 2], (.seq (.region f145r0 [0]) (.seq (.seq (.region f145r1 [0, 8]) (.cond (.t 8) (.seq (.region f145r2 [2]) .ret) .skip)) (.seq (.region f145r3 [0, 3]) (.seq (.seq (.region f145r4 [3, 9, 10, 11]) (.block 0 f145L0)) (.seq (.region f145r11 [2]) .ret))))), true⟩

/-! quire/tab.behind -/
@[simp] def f146r0 : List ROper := [
  ⟨some 4, .alloc [(.int .i64 (.ofNat 0)), (.int .i64 (.ofNat 0))], none⟩]
@[simp] def f146r1 : List ROper := [
  ⟨some 8, .mv (.t 0), none⟩,
  ⟨some 9, .mv (.t 1), none⟩,
  ⟨some 10, .bin .add (.t 9) (.c (.int .i64 (.ofNat 1))), none⟩,
  ⟨some 11, .call 153 [(.t 8), (.t 10), (.f 154)], none⟩,
  ⟨some 7, .mv (.t 11), none⟩,
  ⟨some 12, .extract (.t 7) 0, none⟩,
  ⟨some 13, .extract (.t 7) 1, none⟩,
  ⟨some 5, .mv (.t 12), none⟩,
  ⟨some 6, .mv (.t 13), none⟩]
@[simp] def f146r2 : List ROper := [
  ⟨some 14, .mv (.t 5), none⟩,
  ⟨some 15, .mv (.t 0), none⟩,
  ⟨some 16, .len .slice (.t 15), none⟩,
  ⟨some 17, .bin .lss (.t 14) (.t 16), none⟩]
@[simp] def f146r3 : List ROper := [
  ⟨some 18, .mv (.t 0), none⟩,
  ⟨some 19, .mv (.t 5), none⟩,
  ⟨some 20, .iaddr 2 (.t 18) (.t 19), none⟩,
  ⟨some 21, .load 2 true (.t 20), none⟩,
  ⟨none, .store 2 (.t 4) (.t 21), none⟩]
@[simp] def f146r4 : List ROper := [
  ⟨some 22, .mv (.t 1), none⟩,
  ⟨some 23, .bin .quo (.t 22) (.c (.int .i64 (.ofNat 48))), none⟩,
  ⟨some 24, .bin .add (.t 23) (.c (.int .i64 (.ofNat 1))), none⟩,
  ⟨some 25, .bin .mul (.t 24) (.c (.int .i64 (.ofNat 48))), none⟩,
  ⟨some 26, .build [(.int .i64 (.ofNat 0)), (.int .i64 (.ofNat 0))] [(0, 1, (.t 25))], none⟩,
  ⟨none, .store 2 (.t 4) (.t 26), none⟩]
def f146 : RFunc := ⟨[.cell 4 2 true], (.seq (.region f146r0 [0, 1, 4]) (.seq (.region f146r1 [0, 1, 4, 5]) (.seq (.seq (.region f146r2 [0, 1, 4, 5, 17]) (.cond (.t 17) (.seq (.region f146r3 [4]) .ret) .skip)) (.seq (.region f146r4 [4]) .ret)))), true⟩

/-! quire/hyph.New -/
@[simp] def f147r0 : List ROper := [
  ⟨some 4, .mv (.c .nilp), none⟩,
  ⟨some 5, .mv (.c (.int .i64 (.ofNat 0))), none⟩]
@[simp] def f147r1 : List ROper := [
  ⟨some 20, .mv (.t 0), none⟩,
  ⟨some 21, .len .slice (.t 20), none⟩,
  ⟨some 22, .bin .gtr (.t 21) (.c (.int .i64 (.ofNat 256))), none⟩,
  ⟨some 23, .mv (.t 22), none⟩,
  ⟨some 24, .mv (.t 1), some (23, false)⟩,
  ⟨some 25, .len .slice (.t 24), some (23, false)⟩,
  ⟨some 26, .bin .gtr (.t 25) (.c (.int .i64 (.ofNat 64))), some (23, false)⟩,
  ⟨some 27, .pick (.t 23) (.c (.bool true)) (.t 26), none⟩]
@[simp] def f147r2 : List ROper := [
  ⟨some 4, .mv (.c .nilp), none⟩,
  ⟨some 5, .mv (.c (.int .i64 (.ofNat 3))), none⟩]
@[simp] def f147r3 : List ROper := [
  ⟨some 28, .build [.nilmap, (.list 0 0 .no false [])] [], none⟩,
  ⟨some 29, .box 2 (.t 28), none⟩,
  ⟨some 30, .mkmap, none⟩,
  ⟨some 31, .build [.nilp, .nilmap] [(0, 1, (.t 29)), (1, 1, (.t 30))], none⟩,
  ⟨some 32, .box 2 (.t 31), none⟩,
  ⟨some 6, .mv (.t 32), none⟩]
@[simp] def f147r4 : List ROper := [
  ⟨some 33, .mv (.t 0), none⟩,
  ⟨some 34, .len .slice (.t 33), none⟩,
  ⟨some 35, .mv (.c (.int .i64 (.ofNat 0))), none⟩]
@[simp] def f147r5 : List ROper := [
  ⟨some 36, .bin .lss (.t 35) (.t 34), none⟩]
@[simp] def f147r6 : List ROper := [
  ⟨some 37, .iaddr 1 (.t 33) (.t 35), none⟩,
  ⟨some 38, .load 1 false (.t 37), none⟩,
  ⟨some 8, .mv (.t 38), none⟩]
@[simp] def f147r7 : List ROper := [
  ⟨some 40, .mv (.t 8), none⟩,
  ⟨some 41, .call 156 [(.t 40)], none⟩,
  ⟨some 39, .mv (.t 41), none⟩,
  ⟨some 42, .extract (.t 39) 0, none⟩,
  ⟨some 43, .extract (.t 39) 1, none⟩,
  ⟨some 44, .extract (.t 39) 2, none⟩,
  ⟨some 9, .mv (.t 42), none⟩,
  ⟨some 10, .mv (.t 43), none⟩,
  ⟨some 11, .mv (.t 44), none⟩]
@[simp] def f147r8 : List ROper := [
  ⟨some 45, .mv (.t 11), none⟩,
  ⟨some 46, .un .not (.t 45), none⟩]
@[simp] def f147r9 : List ROper := [
  ⟨some 4, .mv (.c .nilp), none⟩,
  ⟨some 5, .mv (.c (.int .i64 (.ofNat 4))), none⟩]
@[simp] def f147r10 : List ROper := [
  ⟨some 47, .mv (.t 6), none⟩,
  ⟨some 48, .nilchk (.t 47), none⟩,
  ⟨some 49, .faddr 0 (.t 48), none⟩,
  ⟨some 50, .load 1 false (.t 49), none⟩,
  ⟨some 51, .mv (.t 9), none⟩,
  ⟨some 52, .mv (.t 10), none⟩,
  ⟨some 53, .call 157 [(.t 50), (.t 51), (.t 52)], none⟩]
@[simp] def f147r11 : List ROper := [
  ⟨some 54, .bin .add (.t 35) (.c (.int .i64 (.ofNat 1))), none⟩,
  ⟨some 35, .mv (.t 54), none⟩]
def f147B0 : RC := (.seq (.region f147r5 [1, 6, 33, 34, 35, 36]) (.seq (.cond (.t 36) .skip (.exit 0)) (.seq (.block 1 (.seq (.region f147r6 [1, 6, 8, 33, 34, 35]) (.seq (.region f147r7 [1, 6, 9, 10, 11, 33, 34, 35]) (.seq (.seq (.region f147r8 [1, 6, 9, 10, 33, 34, 35, 46]) (.cond (.t 46) (.seq (.region f147r9 [4, 5]) .ret) .skip)) (.region f147r10 [1, 6, 33, 34, 35]))))) (.region f147r11 [1, 6, 33, 34, 35]))))
def f147L0 : RC := .loop [1, 6, 33, 34, 35] f147B0
@[simp] def f147r12 : List ROper := [
  ⟨some 12, .mv (.c (.bool false)), none⟩]
@[simp] def f147r13 : List ROper := [
  ⟨some 55, .mv (.t 1), none⟩,
  ⟨some 56, .len .slice (.t 55), none⟩,
  ⟨some 57, .mv (.c (.int .i64 (.ofNat 0))), none⟩]
@[simp] def f147r14 : List ROper := [
  ⟨some 58, .bin .lss (.t 57) (.t 56), none⟩]
@[simp] def f147r15 : List ROper := [
  ⟨some 59, .iaddr 1 (.t 55) (.t 57), none⟩,
  ⟨some 60, .load 1 false (.t 59), none⟩,
  ⟨some 14, .mv (.t 60), none⟩]
@[simp] def f147r16 : List ROper := [
  ⟨some 62, .mv (.t 14), none⟩,
  ⟨some 63, .call 158 [(.t 62)], none⟩,
  ⟨some 61, .mv (.t 63), none⟩,
  ⟨some 64, .extract (.t 61) 0, none⟩,
  ⟨some 65, .extract (.t 61) 1, none⟩,
  ⟨some 66, .extract (.t 61) 2, none⟩,
  ⟨some 15, .mv (.t 64), none⟩,
  ⟨some 16, .mv (.t 65), none⟩,
  ⟨some 17, .mv (.t 66), none⟩]
@[simp] def f147r17 : List ROper := [
  ⟨some 67, .mv (.t 17), none⟩,
  ⟨some 68, .un .not (.t 67), none⟩]
@[simp] def f147r18 : List ROper := [
  ⟨some 4, .mv (.c .nilp), none⟩,
  ⟨some 5, .mv (.c (.int .i64 (.ofNat 4))), none⟩]
@[simp] def f147r19 : List ROper := [
  ⟨some 70, .mv (.t 6), none⟩,
  ⟨some 71, .nilchk (.t 70), none⟩,
  ⟨some 72, .faddr 1 (.t 71), none⟩,
  ⟨some 73, .load 1 false (.t 72), none⟩,
  ⟨some 74, .mv (.t 15), none⟩,
  ⟨some 75, .lookup [.str] (.list 0 0 .no false []) (.t 73) (.t 74) true, none⟩,
  ⟨some 69, .mv (.t 75), none⟩,
  ⟨some 76, .extract (.t 69) 0, none⟩,
  ⟨some 77, .extract (.t 69) 1, none⟩,
  ⟨some 18, .mv (.t 76), none⟩,
  ⟨some 19, .mv (.t 77), none⟩]
@[simp] def f147r20 : List ROper := [
  ⟨some 78, .mv (.t 12), none⟩,
  ⟨some 79, .mv (.t 78), none⟩,
  ⟨some 80, .mv (.t 19), some (79, false)⟩,
  ⟨some 81, .pick (.t 79) (.c (.bool true)) (.t 80), none⟩,
  ⟨some 12, .mv (.t 81), none⟩]
@[simp] def f147r21 : List ROper := [
  ⟨some 82, .mv (.t 6), none⟩,
  ⟨some 83, .nilchk (.t 82), none⟩,
  ⟨some 84, .faddr 1 (.t 83), none⟩,
  ⟨some 85, .load 1 false (.t 84), none⟩,
  ⟨some 86, .mv (.t 15), none⟩,
  ⟨some 87, .mv (.t 16), none⟩,
  ⟨none, .mapset [.str] (.t 85) (.t 86) (.t 87), none⟩]
@[simp] def f147r22 : List ROper := [
  ⟨some 88, .bin .add (.t 57) (.c (.int .i64 (.ofNat 1))), none⟩,
  ⟨some 57, .mv (.t 88), none⟩]
def f147B1 : RC := (.seq (.region f147r14 [6, 12, 55, 56, 57, 58]) (.seq (.cond (.t 58) .skip (.exit 2)) (.seq (.block 3 (.seq (.region f147r15 [6, 12, 14, 55, 56, 57]) (.seq (.region f147r16 [6, 12, 15, 16, 17, 55, 56, 57]) (.seq (.seq (.region f147r17 [6, 12, 15, 16, 55, 56, 57, 68]) (.cond (.t 68) (.seq (.region f147r18 [4, 5]) .ret) .skip)) (.seq (.region f147r19 [6, 12, 15, 16, 19, 55, 56, 57]) (.seq (.region f147r20 [6, 12, 15, 16, 55, 56, 57]) (.region f147r21 [6, 12, 55, 56, 57]))))))) (.region f147r22 [6, 12, 55, 56, 57]))))
def f147L1 : RC := .loop [6, 12, 55, 56, 57] f147B1
@[simp] def f147r23 : List ROper := [
  ⟨some 89, .mv (.t 12), none⟩]
@[simp] def f147r24 : List ROper := [
  ⟨some 4, .mv (.c .nilp), none⟩,
  ⟨some 5, .mv (.c (.int .i64 (.ofNat 7))), none⟩]
@[simp] def f147r25 : List ROper := [
  ⟨some 90, .mv (.t 6), none⟩,
  ⟨some 4, .mv (.t 90), none⟩,
  ⟨some 5, .mv (.c (.int .i64 (.ofNat 0))), none⟩]
def f147 : RFunc := ⟨[.t 4, .t 5], (.seq (.region f147r0 [0, 1]) (.seq (.seq (.region f147r1 [0, 1, 27]) (.cond (.t 27) (.seq (.region f147r2 [4, 5]) .ret) .skip)) (.seq (.region f147r3 [0, 1, 6]) (.seq (.seq (.region f147r4 [1, 6, 33, 34, 35]) (.block 0 f147L0)) (.seq (.region f147r12 [1, 6, 12]) (.seq (.seq (.region f147r13 [6, 12, 55, 56, 57]) (.block 2 f147L1)) (.seq (.seq (.region f147r23 [6, 89]) (.cond (.t 89) (.seq (.region f147r24 [4, 5]) .ret) .skip)) (.seq (.region f147r25 [4, 5]) .ret)))))))), false⟩

/-! strings.Fields -/
@[simp] def f148r0 : List ROper := [
  ⟨some 2, .mv (.c (.list 0 0 .no false [])), none⟩]
@[simp] def f148r1 : List ROper := [
  ⟨some 3, .mv (.c (.int .i64 (.ofNat 0))), none⟩]
@[simp] def f148r2 : List ROper := [
  ⟨some 4, .mv (.c (.int .i64 (.ofNat 1))), none⟩]
@[simp] def f148r3 : List ROper := [
  ⟨some 5, .mv (.c (.int .u8 (.ofNat 0))), none⟩]
@[simp] def f148r4 : List ROper := [
  ⟨some 6, .mv (.c (.int .i64 (.ofNat 0))), none⟩]
@[simp] def f148r5 : List ROper := [
  ⟨some 13, .mv (.t 6), none⟩,
  ⟨some 14, .mv (.t 0), none⟩,
  ⟨some 15, .len .str (.t 14), none⟩,
  ⟨some 16, .bin .lss (.t 13) (.t 15), none⟩]
@[simp] def f148r6 : List ROper := [
  ⟨some 19, .mv (.t 0), none⟩,
  ⟨some 20, .mv (.t 6), none⟩,
  ⟨some 21, .index (.t 19) (.t 20), none⟩,
  ⟨some 7, .mv (.t 21), none⟩]
@[simp] def f148r7 : List ROper := [
  ⟨some 22, .mv (.t 5), none⟩,
  ⟨some 23, .mv (.t 7), none⟩,
  ⟨some 24, .bin .or (.t 22) (.t 23), none⟩,
  ⟨some 5, .mv (.t 24), none⟩]
@[simp] def f148r8 : List ROper := [
  ⟨some 25, .mv (.t 7), none⟩,
  ⟨some 26, .iaddrA 1 256 (.c asciiSpaceD) (.t 25), none⟩,
  ⟨some 27, .load 1 false (.t 26), none⟩,
  ⟨some 28, .i2i .i64 (.t 27), none⟩,
  ⟨some 8, .mv (.t 28), none⟩]
@[simp] def f148r9 : List ROper := [
  ⟨some 29, .mv (.t 3), none⟩,
  ⟨some 30, .mv (.t 4), none⟩,
  ⟨some 31, .mv (.t 8), none⟩,
  ⟨some 32, .un .xor (.t 31), none⟩,
  ⟨some 33, .bin .and (.t 30) (.t 32), none⟩,
  ⟨some 34, .bin .add (.t 29) (.t 33), none⟩,
  ⟨some 3, .mv (.t 34), none⟩]
@[simp] def f148r10 : List ROper := [
  ⟨some 35, .mv (.t 8), none⟩,
  ⟨some 4, .mv (.t 35), none⟩]
@[simp] def f148r11 : List ROper := [
  ⟨some 17, .mv (.t 6), none⟩,
  ⟨some 18, .bin .add (.t 17) (.c (.int .i64 (.ofNat 1))), none⟩,
  ⟨some 6, .mv (.t 18), none⟩]
def f148B0 : RC := (.seq (.seq (.region f148r5 [0, 3, 4, 5, 6, 16]) (.cond (.t 16) .skip (.exit 0))) (.seq (.block 1 (.seq (.region f148r6 [0, 3, 4, 5, 6, 7]) (.seq (.region f148r7 [0, 3, 4, 5, 6, 7]) (.seq (.region f148r8 [0, 3, 4, 5, 6, 8]) (.seq (.region f148r9 [0, 3, 5, 6, 8]) (.region f148r10 [0, 3, 4, 5, 6])))))) (.region f148r11 [0, 3, 4, 5, 6])))
def f148L0 : RC := .loop [0, 3, 4, 5, 6] f148B0
@[simp] def f148r12 : List ROper := [
  ⟨some 36, .mv (.t 5), none⟩,
  ⟨some 37, .bin .geq (.t 36) (.c (.int .u8 (.ofNat 128))), none⟩]
@[simp] def f148r13 : List ROper := [
  ⟨some 38, .mv (.t 0), none⟩,
  ⟨some 39, .call 159 [(.t 38), (.f 160)], none⟩,
  ⟨some 2, .mv (.t 39), none⟩]
@[simp] def f148r14 : List ROper := [
  ⟨some 40, .mv (.t 3), none⟩,
  ⟨some 41, .mkslice 1 false 16 [(.str [])] (.t 40) (.t 40), none⟩,
  ⟨some 9, .mv (.t 41), none⟩]
@[simp] def f148r15 : List ROper := [
  ⟨some 10, .mv (.c (.int .i64 (.ofNat 0))), none⟩]
@[simp] def f148r16 : List ROper := [
  ⟨some 11, .mv (.c (.int .i64 (.ofNat 0))), none⟩]
@[simp] def f148r17 : List ROper := [
  ⟨some 12, .mv (.c (.int .i64 (.ofNat 0))), none⟩]
@[simp] def f148r18 : List ROper := [
  ⟨some 42, .mv (.t 12), none⟩,
  ⟨some 43, .mv (.t 0), none⟩,
  ⟨some 44, .len .str (.t 43), none⟩,
  ⟨some 45, .bin .lss (.t 42) (.t 44), none⟩,
  ⟨some 46, .mv (.t 45), none⟩,
  ⟨some 47, .mv (.t 0), some (46, true)⟩,
  ⟨some 48, .mv (.t 12), some (46, true)⟩,
  ⟨some 49, .index (.t 47) (.t 48), some (46, true)⟩,
  ⟨some 50, .iaddrA 1 256 (.c asciiSpaceD) (.t 49), some (46, true)⟩,
  ⟨some 51, .load 1 false (.t 50), some (46, true)⟩,
  ⟨some 52, .bin .neq (.t 51) (.c (.int .u8 (.ofNat 0))), some (46, true)⟩,
  ⟨some 53, .pick (.t 46) (.t 52) (.c (.bool false)), none⟩]
@[simp] def f148r19 : List ROper := [
  ⟨some 54, .mv (.t 12), none⟩,
  ⟨some 55, .bin .add (.t 54) (.c (.int .i64 (.ofNat 1))), none⟩,
  ⟨some 12, .mv (.t 55), none⟩]
def f148B1 : RC := (.seq (.seq (.region f148r18 [0, 9, 10, 12, 53]) (.cond (.t 53) .skip (.exit 2))) (.block 3 (.region f148r19 [0, 9, 10, 12])))
def f148L1 : RC := .loop [0, 9, 10, 12] f148B1
@[simp] def f148r20 : List ROper := [
  ⟨some 56, .mv (.t 12), none⟩,
  ⟨some 11, .mv (.t 56), none⟩]
@[simp] def f148r21 : List ROper := [
  ⟨some 57, .mv (.t 12), none⟩,
  ⟨some 58, .mv (.t 0), none⟩,
  ⟨some 59, .len .str (.t 58), none⟩,
  ⟨some 60, .bin .lss (.t 57) (.t 59), none⟩]
@[simp] def f148r22 : List ROper := [
  ⟨some 61, .mv (.t 0), none⟩,
  ⟨some 62, .mv (.t 12), none⟩,
  ⟨some 63, .index (.t 61) (.t 62), none⟩,
  ⟨some 64, .iaddrA 1 256 (.c asciiSpaceD) (.t 63), none⟩,
  ⟨some 65, .load 1 false (.t 64), none⟩,
  ⟨some 66, .bin .eql (.t 65) (.c (.int .u8 (.ofNat 0))), none⟩]
@[simp] def f148r23 : List ROper := [
  ⟨some 67, .mv (.t 12), none⟩,
  ⟨some 68, .bin .add (.t 67) (.c (.int .i64 (.ofNat 1))), none⟩,
  ⟨some 12, .mv (.t 68), none⟩]
@[simp] def f148r24 : List ROper := [
  ⟨some 69, .mv (.t 9), none⟩,
  ⟨some 70, .mv (.t 10), none⟩,
  ⟨some 71, .mv (.t 0), none⟩,
  ⟨some 72, .mv (.t 11), none⟩,
  ⟨some 73, .mv (.t 12), none⟩,
  ⟨some 74, .slice true 1 (.t 71) (some (.t 72)) (some (.t 73)) none, none⟩,
  ⟨some 75, .iaddr 1 (.t 69) (.t 70), none⟩,
  ⟨none, .store 1 (.t 75) (.t 74), none⟩]
@[simp] def f148r25 : List ROper := [
  ⟨some 76, .mv (.t 10), none⟩,
  ⟨some 77, .bin .add (.t 76) (.c (.int .i64 (.ofNat 1))), none⟩,
  ⟨some 10, .mv (.t 77), none⟩]
@[simp] def f148r26 : List ROper := [
  ⟨some 78, .mv (.t 12), none⟩,
  ⟨some 79, .bin .add (.t 78) (.c (.int .i64 (.ofNat 1))), none⟩,
  ⟨some 12, .mv (.t 79), none⟩]
@[simp] def f148r27 : List ROper := [
  ⟨some 80, .mv (.t 12), none⟩,
  ⟨some 81, .mv (.t 0), none⟩,
  ⟨some 82, .len .str (.t 81), none⟩,
  ⟨some 83, .bin .lss (.t 80) (.t 82), none⟩,
  ⟨some 84, .mv (.t 83), none⟩,
  ⟨some 85, .mv (.t 0), some (84, true)⟩,
  ⟨some 86, .mv (.t 12), some (84, true)⟩,
  ⟨some 87, .index (.t 85) (.t 86), some (84, true)⟩,
  ⟨some 88, .iaddrA 1 256 (.c asciiSpaceD) (.t 87), some (84, true)⟩,
  ⟨some 89, .load 1 false (.t 88), some (84, true)⟩,
  ⟨some 90, .bin .neq (.t 89) (.c (.int .u8 (.ofNat 0))), some (84, true)⟩,
  ⟨some 91, .pick (.t 84) (.t 90) (.c (.bool false)), none⟩]
@[simp] def f148r28 : List ROper := [
  ⟨some 92, .mv (.t 12), none⟩,
  ⟨some 93, .bin .add (.t 92) (.c (.int .i64 (.ofNat 1))), none⟩,
  ⟨some 12, .mv (.t 93), none⟩]
def f148B2 : RC := (.seq (.seq (.region f148r27 [0, 9, 10, 12, 91]) (.cond (.t 91) .skip (.exit 6))) (.block 7 (.region f148r28 [0, 9, 10, 12])))
def f148L2 : RC := .loop [0, 9, 10, 12] f148B2
@[simp] def f148r29 : List ROper := [
  ⟨some 94, .mv (.t 12), none⟩,
  ⟨some 11, .mv (.t 94), none⟩]
def f148B3 : RC := (.seq (.seq (.region f148r21 [0, 9, 10, 11, 12, 60]) (.cond (.t 60) .skip (.exit 4))) (.block 5 (.seq (.seq (.region f148r22 [0, 9, 10, 11, 12, 66]) (.cond (.t 66) (.seq (.region f148r23 [0, 9, 10, 11, 12]) (.exit 5)) .skip)) (.seq (.region f148r24 [0, 9, 10, 12]) (.seq (.region f148r25 [0, 9, 10, 12]) (.seq (.region f148r26 [0, 9, 10, 12]) (.seq (.block 6 f148L2) (.region f148r29 [0, 9, 10, 11, 12]))))))))
def f148L3 : RC := .loop [0, 9, 10, 11, 12] f148B3
@[simp] def f148r30 : List ROper := [
  ⟨some 95, .mv (.t 11), none⟩,
  ⟨some 96, .mv (.t 0), none⟩,
  ⟨some 97, .len .str (.t 96), none⟩,
  ⟨some 98, .bin .lss (.t 95) (.t 97), none⟩]
@[simp] def f148r31 : List ROper := [
  ⟨some 99, .mv (.t 9), none⟩,
  ⟨some 100, .mv (.t 10), none⟩,
  ⟨some 101, .mv (.t 0), none⟩,
  ⟨some 102, .mv (.t 11), none⟩,
  ⟨some 103, .slice true 1 (.t 101) (some (.t 102)) none none, none⟩,
  ⟨some 104, .iaddr 1 (.t 99) (.t 100), none⟩,
  ⟨none, .store 1 (.t 104) (.t 103), none⟩]
@[simp] def f148r32 : List ROper := [
  ⟨some 105, .mv (.t 9), none⟩,
  ⟨some 2, .mv (.t 105), none⟩]
def f148 : RFunc := ⟨[.t 2], (.seq (.region f148r0 [0]) (.seq (.region f148r1 [0, 3]) (.seq (.region f148r2 [0, 3, 4]) (.seq (.region f148r3 [0, 3, 4, 5]) (.seq (.seq (.region f148r4 [0, 3, 4, 5, 6]) (.block 0 f148L0)) (.seq (.seq (.region f148r12 [0, 3, 37]) (.cond (.t 37) (.seq (.region f148r13 [2]) .ret) .skip)) (.seq (.region f148r14 [0, 9]) (.seq (.region f148r15 [0, 9, 10]) (.seq (.region f148r16 [0, 9, 10]) (.seq (.region f148r17 [0, 9, 10, 12]) (.seq (.block 2 f148L1) (.seq (.region f148r20 [0, 9, 10, 11, 12]) (.seq (.block 4 f148L3) (.seq (.seq (.region f148r30 [0, 9, 10, 11, 98]) (.cond (.t 98) (.region f148r31 [9]) .skip)) (.seq (.region f148r32 [2]) .ret))))))))))))))), true⟩

/-! quire/hyph.word -/
@[simp] def f149r0 : List ROper := [
  ⟨some 2, .mv (.c (.str [])), none⟩,
  ⟨some 3, .mv (.c (.bool false)), none⟩]
@[simp] def f149r1 : List ROper := [
  ⟨some 7, .mv (.t 0), none⟩,
  ⟨some 8, .len .str (.t 7), none⟩,
  ⟨some 9, .bin .lss (.t 8) (.c (.int .i64 (.ofNat 1))), none⟩,
  ⟨some 10, .mv (.t 9), none⟩,
  ⟨some 11, .mv (.t 0), some (10, false)⟩,
  ⟨some 12, .len .str (.t 11), some (10, false)⟩,
  ⟨some 13, .bin .gtr (.t 12) (.c (.int .i64 (.ofNat 64))), some (10, false)⟩,
  ⟨some 14, .pick (.t 10) (.c (.bool true)) (.t 13), none⟩]
@[simp] def f149r2 : List ROper := [
  ⟨some 2, .mv (.c (.str [])), none⟩,
  ⟨some 3, .mv (.c (.bool false)), none⟩]
@[simp] def f149r3 : List ROper := [
  ⟨some 15, .mv (.t 0), none⟩,
  ⟨some 16, .s2h (.t 15), none⟩,
  ⟨some 4, .mv (.t 16), none⟩]
@[simp] def f149r4 : List ROper := [
  ⟨some 17, .mv (.t 4), none⟩,
  ⟨some 18, .len .slice (.t 17), none⟩,
  ⟨some 19, .mv (.c (.int .i64 (.ofNat 0))), none⟩]
@[simp] def f149r5 : List ROper := [
  ⟨some 20, .bin .lss (.t 19) (.t 18), none⟩]
@[simp] def f149r6 : List ROper := [
  ⟨some 21, .mv (.t 19), none⟩,
  ⟨some 22, .iaddr 1 (.t 17) (.t 19), none⟩,
  ⟨some 23, .load 1 false (.t 22), none⟩,
  ⟨some 5, .mv (.t 21), none⟩,
  ⟨some 6, .mv (.t 23), none⟩]
@[simp] def f149r7 : List ROper := [
  ⟨some 24, .mv (.t 6), none⟩,
  ⟨some 25, .bin .geq (.t 24) (.c (.int .u8 (.ofNat 65))), none⟩,
  ⟨some 26, .mv (.t 25), none⟩,
  ⟨some 27, .mv (.t 6), some (26, true)⟩,
  ⟨some 28, .bin .leq (.t 27) (.c (.int .u8 (.ofNat 90))), some (26, true)⟩,
  ⟨some 29, .pick (.t 26) (.t 28) (.c (.bool false)), none⟩]
@[simp] def f149r8 : List ROper := [
  ⟨some 30, .mv (.t 4), none⟩,
  ⟨some 31, .mv (.t 5), none⟩,
  ⟨some 32, .mv (.t 6), none⟩,
  ⟨some 33, .bin .add (.t 32) (.c (.int .u8 (.ofNat 97))), none⟩,
  ⟨some 34, .bin .sub (.t 33) (.c (.int .u8 (.ofNat 65))), none⟩,
  ⟨some 35, .iaddr 1 (.t 30) (.t 31), none⟩,
  ⟨none, .store 1 (.t 35) (.t 34), none⟩]
@[simp] def f149r9 : List ROper := [
  ⟨some 36, .mv (.t 4), none⟩,
  ⟨some 37, .mv (.t 5), none⟩,
  ⟨some 38, .iaddr 1 (.t 36) (.t 37), none⟩,
  ⟨some 39, .load 1 false (.t 38), none⟩,
  ⟨some 40, .call 161 [(.t 39)], none⟩,
  ⟨some 41, .un .not (.t 40), none⟩]
@[simp] def f149r10 : List ROper := [
  ⟨some 2, .mv (.c (.str [])), none⟩,
  ⟨some 3, .mv (.c (.bool false)), none⟩]
@[simp] def f149r11 : List ROper := [
  ⟨some 42, .bin .add (.t 19) (.c (.int .i64 (.ofNat 1))), none⟩,
  ⟨some 19, .mv (.t 42), none⟩]
def f149B0 : RC := (.seq (.region f149r5 [4, 17, 18, 19, 20]) (.seq (.cond (.t 20) .skip (.exit 0)) (.seq (.block 1 (.seq (.region f149r6 [4, 5, 6, 17, 18, 19]) (.seq (.seq (.region f149r7 [4, 5, 6, 17, 18, 19, 29]) (.cond (.t 29) (.region f149r8 [4, 5, 17, 18, 19]) .skip)) (.seq (.region f149r9 [4, 17, 18, 19, 41]) (.cond (.t 41) (.seq (.region f149r10 [2, 3]) .ret) .skip))))) (.region f149r11 [4, 17, 18, 19]))))
def f149L0 : RC := .loop [4, 17, 18, 19] f149B0
@[simp] def f149r12 : List ROper := [
  ⟨some 43, .mv (.t 4), none⟩,
  ⟨some 44, .b2s (.t 43), none⟩,
  ⟨some 2, .mv (.t 44), none⟩,
  ⟨some 3, .mv (.c (.bool true)), none⟩]
def f149 : RFunc := ⟨[.t 2, .t 3], (.seq (.region f149r0 [0]) (.seq (.seq (.region f149r1 [0, 14]) (.cond (.t 14) (.seq (.region f149r2 [2, 3]) .ret) .skip)) (.seq (.region f149r3 [4]) (.seq (.seq (.region f149r4 [4, 17, 18, 19]) (.block 0 f149L0)) (.seq (.region f149r12 [2, 3]) .ret))))), true⟩

/-! slices.Clone[[]int,int] -/
@[simp] def f150r0 : List ROper := [
  ⟨some 2, .mv (.c (.list 0 0 .no false [])), none⟩]
@[simp] def f150r1 : List ROper := [
  ⟨some 3, .mv (.t 0), none⟩,
  ⟨some 4, .eq .slice false (.t 3) (.c (.list 0 0 .no false [])), none⟩]
@[simp] def f150r2 : List ROper := [
  ⟨some 2, .mv (.c (.list 0 0 .no false [])), none⟩]
@[simp] def f150r3 : List ROper := [
  ⟨some 5, .lit 1 false [(.int .i64 (.ofNat 0))] 0 [], none⟩,
  ⟨some 6, .mv (.t 0), none⟩,
  ⟨some 7, .append 1 false 8 (.t 5) (.t 6), none⟩,
  ⟨some 2, .mv (.t 7), none⟩]
def f150 : RFunc := ⟨[.t 2], (.seq (.region f150r0 [0]) (.seq (.seq (.region f150r1 [0, 4]) (.cond (.t 4) (.seq (.region f150r2 [2]) .ret) .skip)) (.seq (.region f150r3 [2]) .ret))), true⟩

/-! (*quire/hyph.Hyph).found -/
@[simp] def f151r0 : List ROper := [
  ⟨some 10, .mv (.t 1), none⟩,
  ⟨some 11, .len .str (.t 10), none⟩,
  ⟨some 12, .mv (.c (.int .i64 (.ofNat 0))), none⟩]
@[simp] def f151r1 : List ROper := [
  ⟨some 13, .bin .lss (.t 12) (.t 11), none⟩]
@[simp] def f151r2 : List ROper := [
  ⟨some 14, .mv (.t 12), none⟩,
  ⟨some 6, .mv (.t 14), none⟩]
@[simp] def f151r3 : List ROper := [
  ⟨some 15, .mv (.t 0), none⟩,
  ⟨some 16, .nilchk (.t 15), none⟩,
  ⟨some 17, .faddr 0 (.t 16), none⟩,
  ⟨some 18, .load 1 false (.t 17), none⟩,
  ⟨some 7, .mv (.t 18), none⟩]
@[simp] def f151r4 : List ROper := [
  ⟨some 19, .mv (.t 1), none⟩,
  ⟨some 20, .mv (.t 6), none⟩,
  ⟨some 21, .slice true 1 (.t 19) (some (.t 20)) none none, none⟩,
  ⟨some 22, .s2b (.t 21), none⟩,
  ⟨some 23, .len .slice (.t 22), none⟩,
  ⟨some 24, .mv (.c (.int .i64 (.ofNat 0))), none⟩]
@[simp] def f151r5 : List ROper := [
  ⟨some 25, .bin .lss (.t 24) (.t 23), none⟩]
@[simp] def f151r6 : List ROper := [
  ⟨some 26, .iaddr 1 (.t 22) (.t 24), none⟩,
  ⟨some 27, .load 1 false (.t 26), none⟩,
  ⟨some 9, .mv (.t 27), none⟩]
@[simp] def f151r7 : List ROper := [
  ⟨some 28, .mv (.t 7), none⟩,
  ⟨some 29, .nilchk (.t 28), none⟩,
  ⟨some 30, .faddr 0 (.t 29), none⟩,
  ⟨some 31, .load 1 false (.t 30), none⟩,
  ⟨some 32, .mv (.t 9), none⟩,
  ⟨some 33, .lookup [.int] .nilp (.t 31) (.t 32) false, none⟩,
  ⟨some 7, .mv (.t 33), none⟩]
@[simp] def f151r8 : List ROper := [
  ⟨some 34, .mv (.t 7), none⟩,
  ⟨some 35, .eq .ptr false (.t 34) (.c .nilp), none⟩]
@[simp] def f151r9 : List ROper := [
  ⟨some 36, .mv (.t 7), none⟩,
  ⟨some 37, .nilchk (.t 36), none⟩,
  ⟨some 38, .faddr 1 (.t 37), none⟩,
  ⟨some 39, .load 1 false (.t 38), none⟩,
  ⟨some 40, .eq .slice true (.t 39) (.c (.list 0 0 .no false [])), none⟩]
@[simp] def f151r10 : List ROper := [
  ⟨some 41, .mv (.t 2), none⟩,
  ⟨some 42, .mv (.t 6), none⟩,
  ⟨some 43, .mv (.t 7), none⟩,
  ⟨some 44, .nilchk (.t 43), none⟩,
  ⟨some 45, .faddr 1 (.t 44), none⟩,
  ⟨some 46, .load 1 false (.t 45), none⟩,
  ⟨some 47, .callv (.t 41) [(.t 42), (.t 46)], none⟩]
@[simp] def f151r11 : List ROper := [
  ⟨some 48, .bin .add (.t 24) (.c (.int .i64 (.ofNat 1))), none⟩,
  ⟨some 24, .mv (.t 48), none⟩]
def f151B0 : RC := (.seq (.region f151r5 [0, 1, 2, 6, 7, 11, 12, 22, 23, 24, 25]) (.seq (.cond (.t 25) .skip (.exit 2)) (.seq (.block 3 (.seq (.region f151r6 [0, 1, 2, 6, 7, 9, 11, 12, 22, 23, 24]) (.seq (.region f151r7 [0, 1, 2, 6, 7, 11, 12, 22, 23, 24]) (.seq (.seq (.region f151r8 [0, 1, 2, 6, 7, 11, 12, 22, 23, 24, 35]) (.cond (.t 35) (.exit 2) .skip)) (.seq (.region f151r9 [0, 1, 2, 6, 7, 11, 12, 22, 23, 24, 40]) (.cond (.t 40) (.region f151r10 [0, 1, 2, 6, 7, 11, 12, 22, 23, 24]) .skip)))))) (.region f151r11 [0, 1, 2, 6, 7, 11, 12, 22, 23, 24]))))
def f151L0 : RC := .loop [0, 1, 2, 6, 7, 11, 12, 22, 23, 24] f151B0
@[simp] def f151r12 : List ROper := [
  ⟨some 49, .bin .add (.t 12) (.c (.int .i64 (.ofNat 1))), none⟩,
  ⟨some 12, .mv (.t 49), none⟩]
def f151B1 : RC := (.seq (.region f151r1 [0, 1, 2, 11, 12, 13]) (.seq (.cond (.t 13) .skip (.exit 0)) (.seq (.block 1 (.seq (.region f151r2 [0, 1, 2, 6, 11, 12]) (.seq (.region f151r3 [0, 1, 2, 6, 7, 11, 12]) (.seq (.region f151r4 [0, 1, 2, 6, 7, 11, 12, 22, 23, 24]) (.block 2 f151L0))))) (.region f151r12 [0, 1, 2, 11, 12]))))
def f151L1 : RC := .loop [0, 1, 2, 11, 12] f151B1
def f151 : RFunc := ⟨[], (.seq (.region f151r0 [0, 1, 2, 11, 12]) (.block 0 f151L1)), false⟩

/-! (quire/hyph.values).lay -/
@[simp] def f152r0 : List ROper := [
  ⟨some 8, .mv (.t 2), none⟩,
  ⟨some 9, .len .slice (.t 8), none⟩,
  ⟨some 10, .mv (.c (.int .i64 (.ofNat 0))), none⟩]
@[simp] def f152r1 : List ROper := [
  ⟨some 11, .bin .lss (.t 10) (.t 9), none⟩]
@[simp] def f152r2 : List ROper := [
  ⟨some 12, .mv (.t 10), none⟩,
  ⟨some 13, .iaddr 1 (.t 8) (.t 10), none⟩,
  ⟨some 14, .load 1 false (.t 13), none⟩,
  ⟨some 6, .mv (.t 12), none⟩,
  ⟨some 7, .mv (.t 14), none⟩]
@[simp] def f152r3 : List ROper := [
  ⟨some 15, .mv (.t 0), none⟩,
  ⟨some 16, .mv (.t 1), none⟩,
  ⟨some 17, .mv (.t 6), none⟩,
  ⟨some 18, .bin .add (.t 16) (.t 17), none⟩,
  ⟨some 19, .mv (.t 0), none⟩,
  ⟨some 20, .mv (.t 1), none⟩,
  ⟨some 21, .mv (.t 6), none⟩,
  ⟨some 22, .bin .add (.t 20) (.t 21), none⟩,
  ⟨some 23, .iaddr 1 (.t 19) (.t 22), none⟩,
  ⟨some 24, .load 1 false (.t 23), none⟩,
  ⟨some 25, .mv (.t 7), none⟩,
  ⟨some 26, .max [(.t 24), (.t 25)], none⟩,
  ⟨some 27, .iaddr 1 (.t 15) (.t 18), none⟩,
  ⟨none, .store 1 (.t 27) (.t 26), none⟩]
@[simp] def f152r4 : List ROper := [
  ⟨some 28, .bin .add (.t 10) (.c (.int .i64 (.ofNat 1))), none⟩,
  ⟨some 10, .mv (.t 28), none⟩]
def f152B0 : RC := (.seq (.region f152r1 [0, 1, 8, 9, 10, 11]) (.seq (.cond (.t 11) .skip (.exit 0)) (.seq (.block 1 (.seq (.region f152r2 [0, 1, 6, 7, 8, 9, 10]) (.region f152r3 [0, 1, 8, 9, 10]))) (.region f152r4 [0, 1, 8, 9, 10]))))
def f152L0 : RC := .loop [0, 1, 8, 9, 10] f152B0
def f152 : RFunc := ⟨[], (.seq (.region f152r0 [0, 1, 8, 9, 10]) (.block 0 f152L0)), false⟩

/-! slices.BinarySearchFunc[[]quire/api.Stop,quire/api.Stop,int] -/
@[simp] def f153r0 : List ROper := [
  ⟨some 6, .mv (.c (.int .i64 (.ofNat 0))), none⟩,
  ⟨some 7, .mv (.c (.bool false)), none⟩]
@[simp] def f153r1 : List ROper := [
  ⟨some 12, .mv (.t 0), none⟩,
  ⟨some 13, .len .slice (.t 12), none⟩,
  ⟨some 8, .mv (.t 13), none⟩]
@[simp] def f153r2 : List ROper := [
  ⟨some 14, .mv (.t 8), none⟩,
  ⟨some 9, .mv (.c (.int .i64 (.ofNat 0))), none⟩,
  ⟨some 10, .mv (.t 14), none⟩]
@[simp] def f153r3 : List ROper := [
  ⟨some 15, .mv (.t 9), none⟩,
  ⟨some 16, .mv (.t 10), none⟩,
  ⟨some 17, .bin .lss (.t 15) (.t 16), none⟩]
@[simp] def f153r4 : List ROper := [
  ⟨some 18, .mv (.t 9), none⟩,
  ⟨some 19, .mv (.t 10), none⟩,
  ⟨some 20, .bin .add (.t 18) (.t 19), none⟩,
  ⟨some 21, .i2i .u64 (.t 20), none⟩,
  ⟨some 22, .bin .shr (.t 21) (.c (.int .u64 (.ofNat 1))), none⟩,
  ⟨some 23, .i2i .i64 (.t 22), none⟩,
  ⟨some 11, .mv (.t 23), none⟩]
@[simp] def f153r5 : List ROper := [
  ⟨some 24, .mv (.t 2), none⟩,
  ⟨some 25, .mv (.t 0), none⟩,
  ⟨some 26, .mv (.t 11), none⟩,
  ⟨some 27, .iaddr 2 (.t 25) (.t 26), none⟩,
  ⟨some 28, .load 2 true (.t 27), none⟩,
  ⟨some 29, .mv (.t 1), none⟩,
  ⟨some 30, .callv (.t 24) [(.t 28), (.t 29)], none⟩,
  ⟨some 31, .bin .lss (.t 30) (.c (.int .i64 (.ofNat 0))), none⟩]
@[simp] def f153r6 : List ROper := [
  ⟨some 32, .mv (.t 11), none⟩,
  ⟨some 33, .bin .add (.t 32) (.c (.int .i64 (.ofNat 1))), none⟩,
  ⟨some 9, .mv (.t 33), none⟩]
@[simp] def f153r7 : List ROper := [
  ⟨some 34, .mv (.t 11), none⟩,
  ⟨some 10, .mv (.t 34), none⟩]
def f153B0 : RC := (.seq (.seq (.region f153r3 [0, 1, 2, 8, 9, 10, 17]) (.cond (.t 17) .skip (.exit 0))) (.block 1 (.seq (.region f153r4 [0, 1, 2, 8, 9, 10, 11]) (.seq (.region f153r5 [0, 1, 2, 8, 9, 10, 11, 31]) (.cond (.t 31) (.region f153r6 [0, 1, 2, 8, 9, 10]) (.region f153r7 [0, 1, 2, 8, 9, 10]))))))
def f153L0 : RC := .loop [0, 1, 2, 8, 9, 10] f153B0
@[simp] def f153r8 : List ROper := [
  ⟨some 35, .mv (.t 9), none⟩,
  ⟨some 36, .mv (.t 9), none⟩,
  ⟨some 37, .mv (.t 8), none⟩,
  ⟨some 38, .bin .lss (.t 36) (.t 37), none⟩,
  ⟨some 39, .mv (.t 38), none⟩,
  ⟨some 40, .mv (.t 2), some (39, true)⟩,
  ⟨some 41, .mv (.t 0), some (39, true)⟩,
  ⟨some 42, .mv (.t 9), some (39, true)⟩,
  ⟨some 43, .iaddr 2 (.t 41) (.t 42), some (39, true)⟩,
  ⟨some 44, .load 2 true (.t 43), some (39, true)⟩,
  ⟨some 45, .mv (.t 1), some (39, true)⟩,
  ⟨some 46, .callv (.t 40) [(.t 44), (.t 45)], some (39, true)⟩,
  ⟨some 47, .bin .eql (.t 46) (.c (.int .i64 (.ofNat 0))), some (39, true)⟩,
  ⟨some 48, .pick (.t 39) (.t 47) (.c (.bool false)), none⟩,
  ⟨some 6, .mv (.t 35), none⟩,
  ⟨some 7, .mv (.t 48), none⟩]
def f153 : RFunc := ⟨[.t 6, .t 7], (.seq (.region f153r0 [0, 1, 2]) (.seq (.region f153r1 [0, 1, 2, 8]) (.seq (.region f153r2 [0, 1, 2, 8, 9, 10]) (.seq (.block 0 f153L0) (.seq (.region f153r8 [6, 7]) .ret))))), false⟩

/-! quire/tab.behind$1 -/
@[simp] def f154r0 : List ROper := [
  ⟨some 2, .box 2 (.t 0), none⟩,
  ⟨some 4, .mv (.c (.int .i64 (.ofNat 0))), none⟩]
@[simp] def f154r1 : List ROper := [
  ⟨some 5, .faddr 0 (.t 2), none⟩,
  ⟨some 6, .load 1 false (.t 5), none⟩,
  ⟨some 7, .mv (.t 1), none⟩,
  ⟨some 8, .call 155 [(.t 6), (.t 7)], none⟩,
  ⟨some 4, .mv (.t 8), none⟩]
def f154 : RFunc := ⟨[.t 4], (.seq (.region f154r0 [1, 2]) (.seq (.region f154r1 [4]) .ret)), true⟩

/-! cmp.Compare[int] -/
@[simp] def f155r0 : List ROper := [
  ⟨some 4, .mv (.c (.int .i64 (.ofNat 0))), none⟩]
@[simp] def f155r1 : List ROper := [
  ⟨some 7, .mv (.t 0), none⟩,
  ⟨some 8, .call 162 [(.t 7)], none⟩,
  ⟨some 5, .mv (.t 8), none⟩]
@[simp] def f155r2 : List ROper := [
  ⟨some 9, .mv (.t 1), none⟩,
  ⟨some 10, .call 162 [(.t 9)], none⟩,
  ⟨some 6, .mv (.t 10), none⟩]
@[simp] def f155r3 : List ROper := [
  ⟨some 11, .mv (.t 5), none⟩]
@[simp] def f155r4 : List ROper := [
  ⟨some 12, .mv (.t 6), none⟩]
@[simp] def f155r5 : List ROper := [
  ⟨some 4, .mv (.c (.int .i64 (.ofNat 0))), none⟩]
@[simp] def f155r6 : List ROper := [
  ⟨some 4, .mv (.c (.int .i64 (.negSucc 0))), none⟩]
@[simp] def f155r7 : List ROper := [
  ⟨some 13, .mv (.t 6), none⟩]
@[simp] def f155r8 : List ROper := [
  ⟨some 4, .mv (.c (.int .i64 (.ofNat 1))), none⟩]
@[simp] def f155r9 : List ROper := [
  ⟨some 14, .mv (.t 0), none⟩,
  ⟨some 15, .mv (.t 1), none⟩,
  ⟨some 16, .bin .lss (.t 14) (.t 15), none⟩]
@[simp] def f155r10 : List ROper := [
  ⟨some 4, .mv (.c (.int .i64 (.negSucc 0))), none⟩]
@[simp] def f155r11 : List ROper := [
  ⟨some 17, .mv (.t 0), none⟩,
  ⟨some 18, .mv (.t 1), none⟩,
  ⟨some 19, .bin .gtr (.t 17) (.t 18), none⟩]
@[simp] def f155r12 : List ROper := [
  ⟨some 4, .mv (.c (.int .i64 (.ofNat 1))), none⟩]
@[simp] def f155r13 : List ROper := [
  ⟨some 4, .mv (.c (.int .i64 (.ofNat 0))), none⟩]
def f155 : RFunc := ⟨[.t 4], (.seq (.region f155r0 [0, 1]) (.seq (.region f155r1 [0, 1, 5]) (.seq (.region f155r2 [0, 1, 5, 6]) (.seq (.seq (.region f155r3 [0, 1, 6, 11]) (.cond (.t 11) (.seq (.seq (.region f155r4 [12]) (.cond (.t 12) (.seq (.region f155r5 [4]) .ret) .skip)) (.seq (.region f155r6 [4]) .ret)) .skip)) (.seq (.seq (.region f155r7 [0, 1, 13]) (.cond (.t 13) (.seq (.region f155r8 [4]) .ret) .skip)) (.seq (.seq (.region f155r9 [0, 1, 16]) (.cond (.t 16) (.seq (.region f155r10 [4]) .ret) .skip)) (.seq (.seq (.region f155r11 [19]) (.cond (.t 19) (.seq (.region f155r12 [4]) .ret) .skip)) (.seq (.region f155r13 [4]) .ret)))))))), true⟩

/-! quire/hyph.pattern -/
@[simp] def f156r0 : List ROper := [
  ⟨some 2, .mv (.c (.str [])), none⟩,
  ⟨some 3, .mv (.c (.list 0 0 .no false [])), none⟩,
  ⟨some 4, .mv (.c (.bool false)), none⟩]
@[simp] def f156r1 : List ROper := [
  ⟨some 11, .mv (.t 0), none⟩,
  ⟨some 12, .len .str (.t 11), none⟩,
  ⟨some 13, .bin .lss (.t 12) (.c (.int .i64 (.ofNat 1))), none⟩,
  ⟨some 14, .mv (.t 13), none⟩,
  ⟨some 15, .mv (.t 0), some (14, false)⟩,
  ⟨some 16, .len .str (.t 15), some (14, false)⟩,
  ⟨some 17, .bin .gtr (.t 16) (.c (.int .i64 (.ofNat 16))), some (14, false)⟩,
  ⟨some 18, .pick (.t 14) (.c (.bool true)) (.t 17), none⟩]
@[simp] def f156r2 : List ROper := [
  ⟨some 2, .mv (.c (.str [])), none⟩,
  ⟨some 3, .mv (.c (.list 0 0 .no false [])), none⟩,
  ⟨some 4, .mv (.c (.bool false)), none⟩]
@[simp] def f156r3 : List ROper := [
  ⟨some 5, .mv (.c (.list 0 0 .no false [])), none⟩]
@[simp] def f156r4 : List ROper := [
  ⟨some 19, .hlit 1 false [(.int .u8 (.ofNat 0))] 1 [(0, (.c (.int .u8 (.ofNat 0))))], none⟩,
  ⟨some 6, .mv (.t 19), none⟩]
@[simp] def f156r5 : List ROper := [
  ⟨some 7, .mv (.c (.bool false)), none⟩,
  ⟨some 8, .mv (.c (.bool true)), none⟩]
@[simp] def f156r6 : List ROper := [
  ⟨some 20, .mv (.t 0), none⟩,
  ⟨some 21, .s2h (.t 20), none⟩,
  ⟨some 22, .len .slice (.t 21), none⟩,
  ⟨some 23, .mv (.c (.int .i64 (.ofNat 0))), none⟩]
@[simp] def f156r7 : List ROper := [
  ⟨some 24, .bin .lss (.t 23) (.t 22), none⟩]
@[simp] def f156r8 : List ROper := [
  ⟨some 25, .mv (.t 23), none⟩,
  ⟨some 26, .iaddr 1 (.t 21) (.t 23), none⟩,
  ⟨some 27, .load 1 false (.t 26), none⟩,
  ⟨some 9, .mv (.t 25), none⟩,
  ⟨some 10, .mv (.t 27), none⟩]
@[simp] def f156r9 : List ROper := [
  ⟨some 29, .mv (.t 10), none⟩,
  ⟨some 30, .bin .eql (.t 29) (.c (.int .u8 (.ofNat 46))), none⟩,
  ⟨some 28, .mv (.t 30), none⟩]
@[simp] def f156r10 : List ROper := [
  ⟨some 31, .mv (.t 9), none⟩,
  ⟨some 32, .bin .neq (.t 31) (.c (.int .i64 (.ofNat 0))), none⟩,
  ⟨some 33, .mv (.t 32), none⟩,
  ⟨some 34, .mv (.t 9), some (33, true)⟩,
  ⟨some 35, .mv (.t 0), some (33, true)⟩,
  ⟨some 36, .len .str (.t 35), some (33, true)⟩,
  ⟨some 37, .bin .sub (.t 36) (.c (.int .i64 (.ofNat 1))), some (33, true)⟩,
  ⟨some 38, .bin .neq (.t 34) (.t 37), some (33, true)⟩,
  ⟨some 39, .pick (.t 33) (.t 38) (.c (.bool false)), none⟩]
@[simp] def f156r11 : List ROper := [
  ⟨some 2, .mv (.c (.str [])), none⟩,
  ⟨some 3, .mv (.c (.list 0 0 .no false [])), none⟩,
  ⟨some 4, .mv (.c (.bool false)), none⟩]
@[simp] def f156r12 : List ROper := [
  ⟨some 40, .mv (.t 5), none⟩,
  ⟨some 41, .mv (.t 10), none⟩,
  ⟨some 42, .hlit 1 false [(.int .u8 (.ofNat 0))] 1 [(0, (.t 41))], none⟩,
  ⟨some 43, .append 1 false 1 (.t 40) (.t 42), none⟩,
  ⟨some 44, .mv (.t 6), none⟩,
  ⟨some 45, .hlit 1 false [(.int .u8 (.ofNat 0))] 1 [(0, (.c (.int .u8 (.ofNat 0))))], none⟩,
  ⟨some 46, .append 1 false 1 (.t 44) (.t 45), none⟩,
  ⟨some 5, .mv (.t 43), none⟩,
  ⟨some 6, .mv (.t 46), none⟩]
@[simp] def f156r13 : List ROper := [
  ⟨some 8, .mv (.c (.bool true)), none⟩]
@[simp] def f156r14 : List ROper := [
  ⟨some 48, .mv (.t 10), none⟩,
  ⟨some 49, .call 161 [(.t 48)], none⟩,
  ⟨some 47, .mv (.t 49), none⟩]
@[simp] def f156r15 : List ROper := [
  ⟨some 50, .mv (.t 5), none⟩,
  ⟨some 51, .mv (.t 10), none⟩,
  ⟨some 52, .hlit 1 false [(.int .u8 (.ofNat 0))] 1 [(0, (.t 51))], none⟩,
  ⟨some 53, .append 1 false 1 (.t 50) (.t 52), none⟩,
  ⟨some 54, .mv (.t 6), none⟩,
  ⟨some 55, .hlit 1 false [(.int .u8 (.ofNat 0))] 1 [(0, (.c (.int .u8 (.ofNat 0))))], none⟩,
  ⟨some 56, .append 1 false 1 (.t 54) (.t 55), none⟩,
  ⟨some 5, .mv (.t 53), none⟩,
  ⟨some 6, .mv (.t 56), none⟩]
@[simp] def f156r16 : List ROper := [
  ⟨some 7, .mv (.c (.bool true)), none⟩,
  ⟨some 8, .mv (.c (.bool true)), none⟩]
@[simp] def f156r17 : List ROper := [
  ⟨some 58, .mv (.t 10), none⟩,
  ⟨some 59, .call 163 [(.t 58)], none⟩,
  ⟨some 60, .mv (.t 59), none⟩,
  ⟨some 61, .mv (.t 8), some (60, true)⟩,
  ⟨some 62, .pick (.t 60) (.t 61) (.c (.bool false)), none⟩,
  ⟨some 57, .mv (.t 62), none⟩]
@[simp] def f156r18 : List ROper := [
  ⟨some 63, .mv (.t 6), none⟩,
  ⟨some 64, .mv (.t 6), none⟩,
  ⟨some 65, .len .slice (.t 64), none⟩,
  ⟨some 66, .bin .sub (.t 65) (.c (.int .i64 (.ofNat 1))), none⟩,
  ⟨some 67, .mv (.t 10), none⟩,
  ⟨some 68, .bin .sub (.t 67) (.c (.int .u8 (.ofNat 48))), none⟩,
  ⟨some 69, .iaddr 1 (.t 63) (.t 66), none⟩,
  ⟨none, .store 1 (.t 69) (.t 68), none⟩]
@[simp] def f156r19 : List ROper := [
  ⟨some 8, .mv (.c (.bool false)), none⟩]
@[simp] def f156r20 : List ROper := [
  ⟨some 2, .mv (.c (.str [])), none⟩,
  ⟨some 3, .mv (.c (.list 0 0 .no false [])), none⟩,
  ⟨some 4, .mv (.c (.bool false)), none⟩]
@[simp] def f156r21 : List ROper := [
  ⟨some 70, .bin .add (.t 23) (.c (.int .i64 (.ofNat 1))), none⟩,
  ⟨some 23, .mv (.t 70), none⟩]
def f156B0 : RC := (.seq (.region f156r7 [0, 5, 6, 7, 8, 21, 22, 23, 24]) (.seq (.cond (.t 24) .skip (.exit 0)) (.seq (.block 1 (.seq (.region f156r8 [0, 5, 6, 7, 8, 9, 10, 21, 22, 23]) (.block 2 (.seq (.region f156r9 [0, 5, 6, 7, 8, 9, 10, 21, 22, 23, 28]) (.cond (.t 28) (.seq (.seq (.region f156r10 [0, 5, 6, 7, 10, 21, 22, 23, 39]) (.cond (.t 39) (.seq (.region f156r11 [2, 3, 4]) .ret) .skip)) (.seq (.region f156r12 [0, 5, 6, 7, 21, 22, 23]) (.region f156r13 [0, 5, 6, 7, 8, 21, 22, 23]))) (.seq (.region f156r14 [0, 5, 6, 7, 8, 10, 21, 22, 23, 47]) (.cond (.t 47) (.seq (.region f156r15 [0, 5, 6, 21, 22, 23]) (.region f156r16 [0, 5, 6, 7, 8, 21, 22, 23])) (.seq (.region f156r17 [0, 5, 6, 7, 10, 21, 22, 23, 57]) (.cond (.t 57) (.seq (.region f156r18 [0, 5, 6, 7, 21, 22, 23]) (.region f156r19 [0, 5, 6, 7, 8, 21, 22, 23])) (.seq (.region f156r20 [2, 3, 4]) .ret)))))))))) (.region f156r21 [0, 5, 6, 7, 8, 21, 22, 23]))))
def f156L0 : RC := .loop [0, 5, 6, 7, 8, 21, 22, 23] f156B0
@[simp] def f156r22 : List ROper := [
  ⟨some 71, .mv (.t 5), none⟩,
  ⟨some 72, .b2s (.t 71), none⟩,
  ⟨some 73, .mv (.t 6), none⟩,
  ⟨some 74, .mv (.t 7), none⟩,
  ⟨some 2, .mv (.t 72), none⟩,
  ⟨some 3, .mv (.t 73), none⟩,
  ⟨some 4, .mv (.t 74), none⟩]
def f156 : RFunc := ⟨[.t 2, .t 3, .t 4], (.seq (.region f156r0 [0]) (.seq (.seq (.region f156r1 [0, 18]) (.cond (.t 18) (.seq (.region f156r2 [2, 3, 4]) .ret) .skip)) (.seq (.region f156r3 [0, 5]) (.seq (.region f156r4 [0, 5, 6]) (.seq (.region f156r5 [0, 5, 6, 7, 8]) (.seq (.seq (.region f156r6 [0, 5, 6, 7, 8, 21, 22, 23]) (.block 0 f156L0)) (.seq (.region f156r22 [2, 3, 4]) .ret))))))), true⟩

/-! (*quire/hyph.node).add -/
@[simp] def f157r0 : List ROper := [
  ⟨some 10, .mv (.t 1), none⟩,
  ⟨some 11, .s2b (.t 10), none⟩,
  ⟨some 12, .len .slice (.t 11), none⟩,
  ⟨some 13, .mv (.c (.int .i64 (.ofNat 0))), none⟩]
@[simp] def f157r1 : List ROper := [
  ⟨some 14, .bin .lss (.t 13) (.t 12), none⟩]
@[simp] def f157r2 : List ROper := [
  ⟨some 15, .iaddr 1 (.t 11) (.t 13), none⟩,
  ⟨some 16, .load 1 false (.t 15), none⟩,
  ⟨some 7, .mv (.t 16), none⟩]
@[simp] def f157r3 : List ROper := [
  ⟨some 17, .mv (.t 0), none⟩,
  ⟨some 18, .nilchk (.t 17), none⟩,
  ⟨some 19, .faddr 0 (.t 18), none⟩,
  ⟨some 20, .load 1 false (.t 19), none⟩,
  ⟨some 21, .eq .map false (.t 20) (.c .nilmap), none⟩]
@[simp] def f157r4 : List ROper := [
  ⟨some 22, .mv (.t 0), none⟩,
  ⟨some 23, .mkmap, none⟩,
  ⟨some 24, .nilchk (.t 22), none⟩,
  ⟨some 25, .faddr 0 (.t 24), none⟩,
  ⟨none, .store 1 (.t 25) (.t 23), none⟩]
@[simp] def f157r5 : List ROper := [
  ⟨some 26, .mv (.t 0), none⟩,
  ⟨some 27, .nilchk (.t 26), none⟩,
  ⟨some 28, .faddr 0 (.t 27), none⟩,
  ⟨some 29, .load 1 false (.t 28), none⟩,
  ⟨some 30, .mv (.t 7), none⟩,
  ⟨some 31, .lookup [.int] .nilp (.t 29) (.t 30) false, none⟩,
  ⟨some 32, .eq .ptr false (.t 31) (.c .nilp), none⟩]
@[simp] def f157r6 : List ROper := [
  ⟨some 33, .mv (.t 0), none⟩,
  ⟨some 34, .nilchk (.t 33), none⟩,
  ⟨some 35, .faddr 0 (.t 34), none⟩,
  ⟨some 36, .load 1 false (.t 35), none⟩,
  ⟨some 37, .mv (.t 7), none⟩,
  ⟨some 38, .build [.nilmap, (.list 0 0 .no false [])] [], none⟩,
  ⟨some 39, .box 2 (.t 38), none⟩,
  ⟨none, .mapset [.int] (.t 36) (.t 37) (.t 39), none⟩]
@[simp] def f157r7 : List ROper := [
  ⟨some 40, .mv (.t 0), none⟩,
  ⟨some 41, .nilchk (.t 40), none⟩,
  ⟨some 42, .faddr 0 (.t 41), none⟩,
  ⟨some 43, .load 1 false (.t 42), none⟩,
  ⟨some 44, .mv (.t 7), none⟩,
  ⟨some 45, .lookup [.int] .nilp (.t 43) (.t 44) false, none⟩,
  ⟨some 0, .mv (.t 45), none⟩]
@[simp] def f157r8 : List ROper := [
  ⟨some 46, .bin .add (.t 13) (.c (.int .i64 (.ofNat 1))), none⟩,
  ⟨some 13, .mv (.t 46), none⟩]
def f157B0 : RC := (.seq (.region f157r1 [0, 2, 11, 12, 13, 14]) (.seq (.cond (.t 14) .skip (.exit 0)) (.seq (.block 1 (.seq (.region f157r2 [0, 2, 7, 11, 12, 13]) (.seq (.seq (.region f157r3 [0, 2, 7, 11, 12, 13, 21]) (.cond (.t 21) (.region f157r4 [0, 2, 7, 11, 12, 13]) .skip)) (.seq (.seq (.region f157r5 [0, 2, 7, 11, 12, 13, 32]) (.cond (.t 32) (.region f157r6 [0, 2, 7, 11, 12, 13]) .skip)) (.region f157r7 [0, 2, 11, 12, 13]))))) (.region f157r8 [0, 2, 11, 12, 13]))))
def f157L0 : RC := .loop [0, 2, 11, 12, 13] f157B0
@[simp] def f157r9 : List ROper := [
  ⟨some 47, .mv (.t 0), none⟩,
  ⟨some 48, .nilchk (.t 47), none⟩,
  ⟨some 49, .faddr 1 (.t 48), none⟩,
  ⟨some 50, .load 1 false (.t 49), none⟩,
  ⟨some 51, .eq .slice false (.t 50) (.c (.list 0 0 .no false [])), none⟩]
@[simp] def f157r10 : List ROper := [
  ⟨some 52, .mv (.t 0), none⟩,
  ⟨some 53, .mv (.t 2), none⟩,
  ⟨some 54, .call 164 [(.t 53)], none⟩,
  ⟨some 55, .nilchk (.t 52), none⟩,
  ⟨some 56, .faddr 1 (.t 55), none⟩,
  ⟨none, .store 1 (.t 56) (.t 54), none⟩]
@[simp] def f157r11 : List ROper := [
  ⟨some 57, .mv (.t 2), none⟩,
  ⟨some 58, .len .slice (.t 57), none⟩,
  ⟨some 59, .mv (.c (.int .i64 (.ofNat 0))), none⟩]
@[simp] def f157r12 : List ROper := [
  ⟨some 60, .bin .lss (.t 59) (.t 58), none⟩]
@[simp] def f157r13 : List ROper := [
  ⟨some 61, .mv (.t 59), none⟩,
  ⟨some 62, .iaddr 1 (.t 57) (.t 59), none⟩,
  ⟨some 63, .load 1 false (.t 62), none⟩,
  ⟨some 8, .mv (.t 61), none⟩,
  ⟨some 9, .mv (.t 63), none⟩]
@[simp] def f157r14 : List ROper := [
  ⟨some 64, .mv (.t 0), none⟩,
  ⟨some 65, .nilchk (.t 64), none⟩,
  ⟨some 66, .faddr 1 (.t 65), none⟩,
  ⟨some 67, .load 1 false (.t 66), none⟩,
  ⟨some 68, .mv (.t 8), none⟩,
  ⟨some 69, .mv (.t 0), none⟩,
  ⟨some 70, .nilchk (.t 69), none⟩,
  ⟨some 71, .faddr 1 (.t 70), none⟩,
  ⟨some 72, .load 1 false (.t 71), none⟩,
  ⟨some 73, .mv (.t 8), none⟩,
  ⟨some 74, .iaddr 1 (.t 72) (.t 73), none⟩,
  ⟨some 75, .load 1 false (.t 74), none⟩,
  ⟨some 76, .mv (.t 9), none⟩,
  ⟨some 77, .max [(.t 75), (.t 76)], none⟩,
  ⟨some 78, .iaddr 1 (.t 67) (.t 68), none⟩,
  ⟨none, .store 1 (.t 78) (.t 77), none⟩]
@[simp] def f157r15 : List ROper := [
  ⟨some 79, .bin .add (.t 59) (.c (.int .i64 (.ofNat 1))), none⟩,
  ⟨some 59, .mv (.t 79), none⟩]
def f157B1 : RC := (.seq (.region f157r12 [0, 57, 58, 59, 60]) (.seq (.cond (.t 60) .skip (.exit 2)) (.seq (.block 3 (.seq (.region f157r13 [0, 8, 9, 57, 58, 59]) (.dregion f157r14 [] [] [0, 57, 58, 59]))) (.region f157r15 [0, 57, 58, 59]))))
def f157L1 : RC := .loop [0, 57, 58, 59] f157B1
def f157 : RFunc := ⟨[], (.seq (.seq (.region f157r0 [0, 2, 11, 12, 13]) (.block 0 f157L0)) (.seq (.seq (.region f157r9 [0, 2, 51]) (.cond (.t 51) (.seq (.region f157r10 []) .ret) .skip)) (.seq (.region f157r11 [0, 57, 58, 59]) (.block 2 f157L1)))), false⟩

end Go.D.Tab
