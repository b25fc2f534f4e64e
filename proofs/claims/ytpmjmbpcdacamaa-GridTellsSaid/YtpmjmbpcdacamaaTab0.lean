/-
The code of what the laws reach, as a table of the small language. Printed by wip/gen.
-/
import Derived.Test.YtpmjmbpcdacamaaFwDPrim
namespace Go.D.Tab

/-! quire/metric.Masses -/
@[simp] def f10r0 : List ROper := [
  ⟨some 1, .box 21 (.t 0), none⟩,
  ⟨some 2, .mv (.c (.list 0 0 .no false [])), none⟩,
  ⟨some 3, .mv (.c (.int .i64 (.ofNat 0))), none⟩]
@[simp] def f10r1 : List ROper := [
  ⟨some 18, .load 21 true (.t 1), none⟩,
  ⟨some 19, .call 13 [(.t 18)], none⟩,
  ⟨some 4, .mv (.t 19), none⟩]
@[simp] def f10r2 : List ROper := [
  ⟨some 20, .mv (.t 4), none⟩,
  ⟨some 21, .bin .neq (.t 20) (.c (.int .i64 (.ofNat 0))), none⟩]
@[simp] def f10r3 : List ROper := [
  ⟨some 22, .mv (.t 4), none⟩,
  ⟨some 2, .mv (.c (.list 0 0 .no false [])), none⟩,
  ⟨some 3, .mv (.t 22), none⟩]
@[simp] def f10r4 : List ROper := [
  ⟨some 24, .faddr 0 (.t 1), none⟩,
  ⟨some 25, .load 1 false (.t 24), none⟩,
  ⟨some 26, .call 27 [(.t 25)], none⟩,
  ⟨some 23, .mv (.t 26), none⟩,
  ⟨some 27, .extract (.t 23) 0, none⟩,
  ⟨some 28, .extract (.t 23) 1, none⟩,
  ⟨some 5, .mv (.t 27), none⟩,
  ⟨some 6, .mv (.t 28), none⟩]
@[simp] def f10r5 : List ROper := [
  ⟨some 29, .faddr 1 (.t 1), none⟩,
  ⟨some 30, .load 1 false (.t 29), none⟩,
  ⟨some 31, .call 29 [(.t 30)], none⟩,
  ⟨some 7, .mv (.t 31), none⟩]
@[simp] def f10r6 : List ROper := [
  ⟨some 32, .faddr 20 (.t 1), none⟩,
  ⟨some 33, .load 1 false (.t 32), none⟩,
  ⟨some 8, .mv (.t 33), none⟩]
@[simp] def f10r7 : List ROper := [
  ⟨some 9, .mv (.c (.list 0 0 .no false [])), none⟩]
@[simp] def f10r8 : List ROper := [
  ⟨some 10, .mv (.c (.bool false)), none⟩,
  ⟨some 11, .mv (.c (.int .u8 (.ofNat 0))), none⟩]
@[simp] def f10r9 : List ROper := [
  ⟨some 34, .mv (.t 5), none⟩,
  ⟨some 35, .len .slice (.t 34), none⟩,
  ⟨some 36, .mv (.c (.int .i64 (.ofNat 0))), none⟩]
@[simp] def f10r10 : List ROper := [
  ⟨some 37, .bin .lss (.t 36) (.t 35), none⟩]
@[simp] def f10r11 : List ROper := [
  ⟨some 38, .iaddr 3 (.t 34) (.t 36), none⟩,
  ⟨some 39, .load 3 true (.t 38), none⟩,
  ⟨some 13, .alloc [(.int .i64 (.ofNat 0)), (.int .i64 (.ofNat 0)), (.int .i64 (.ofNat 0))], none⟩,
  ⟨none, .store 3 (.t 13) (.t 39), none⟩]
@[simp] def f10r12 : List ROper := [
  ⟨some 40, .mv (.t 7), none⟩,
  ⟨some 41, .faddr 0 (.t 13), none⟩,
  ⟨some 42, .load 1 false (.t 41), none⟩,
  ⟨some 43, .callv (.t 40) [(.t 42)], none⟩,
  ⟨some 14, .alloc [(.int .i64 (.ofNat 0)), (.int .i64 (.ofNat 0)), (.int .i64 (.ofNat 0))], none⟩,
  ⟨none, .store 3 (.t 14) (.t 43), none⟩]
@[simp] def f10r13 : List ROper := [
  ⟨some 44, .faddr 0 (.t 13), none⟩,
  ⟨some 45, .load 1 false (.t 44), none⟩,
  ⟨some 46, .faddr 1 (.t 13), none⟩,
  ⟨some 47, .load 1 false (.t 46), none⟩,
  ⟨some 48, .faddr 2 (.t 13), none⟩,
  ⟨some 49, .load 1 false (.t 48), none⟩,
  ⟨some 50, .faddr 0 (.t 14), none⟩,
  ⟨some 51, .load 1 false (.t 50), none⟩,
  ⟨some 52, .build [(.int .i64 (.ofNat 0)), (.int .i64 (.ofNat 0)), (.int .i64 (.ofNat 0)), (.int .i64 (.ofNat 0)), (.int .i64 (.ofNat 0)), (.int .i64 (.ofNat 0))] [(0, 1, (.t 45)), (1, 1, (.t 47)), (2, 1, (.t 49)), (3, 1, (.t 51))], none⟩,
  ⟨some 15, .alloc [(.int .i64 (.ofNat 0)), (.int .i64 (.ofNat 0)), (.int .i64 (.ofNat 0)), (.int .i64 (.ofNat 0)), (.int .i64 (.ofNat 0)), (.int .i64 (.ofNat 0))], none⟩,
  ⟨none, .store 6 (.t 15) (.t 52), none⟩]
@[simp] def f10r14 : List ROper := [
  ⟨some 53, .faddr 3 (.t 15), none⟩,
  ⟨some 54, .load 1 false (.t 53), none⟩,
  ⟨some 55, .bin .eql (.t 54) (.c (.int .i64 (.ofNat 0))), none⟩]
@[simp] def f10r15 : List ROper := [
  ⟨some 56, .faddr 2 (.t 1), none⟩,
  ⟨some 57, .faddr 0 (.t 56), none⟩,
  ⟨some 58, .load 1 false (.t 57), none⟩,
  ⟨some 59, .faddr 3 (.t 15), none⟩,
  ⟨none, .store 1 (.t 59) (.t 58), none⟩]
@[simp] def f10r16 : List ROper := [
  ⟨some 60, .faddr 0 (.t 1), none⟩,
  ⟨some 61, .load 1 false (.t 60), none⟩,
  ⟨some 62, .faddr 0 (.t 13), none⟩,
  ⟨some 63, .load 1 false (.t 62), none⟩,
  ⟨some 64, .index (.t 61) (.t 63), none⟩,
  ⟨some 16, .mv (.t 64), none⟩]
@[simp] def f10r17 : List ROper := [
  ⟨some 65, .faddr 2 (.t 13), none⟩,
  ⟨some 66, .load 1 false (.t 65), none⟩,
  ⟨some 67, .bin .eql (.t 66) (.c (.int .i64 (.ofNat 1))), none⟩,
  ⟨some 68, .mv (.t 67), none⟩,
  ⟨some 69, .faddr 2 (.t 13), some (68, false)⟩,
  ⟨some 70, .load 1 false (.t 69), some (68, false)⟩,
  ⟨some 71, .bin .eql (.t 70) (.c (.int .i64 (.ofNat 2))), some (68, false)⟩,
  ⟨some 72, .pick (.t 68) (.c (.bool true)) (.t 71), none⟩,
  ⟨some 17, .mv (.t 72), none⟩]
@[simp] def f10r18 : List ROper := [
  ⟨some 74, .mv (.t 17), none⟩,
  ⟨some 75, .mv (.t 74), none⟩,
  ⟨some 76, .faddr 2 (.t 13), some (75, false)⟩,
  ⟨some 77, .load 1 false (.t 76), some (75, false)⟩,
  ⟨some 78, .bin .eql (.t 77) (.c (.int .i64 (.ofNat 3))), some (75, false)⟩,
  ⟨some 79, .pick (.t 75) (.c (.bool true)) (.t 78), none⟩,
  ⟨some 73, .mv (.t 79), none⟩]
@[simp] def f10r19 : List ROper := [
  ⟨some 80, .mv (.t 16), none⟩,
  ⟨some 81, .faddr 3 (.t 15), none⟩,
  ⟨some 82, .load 1 false (.t 81), none⟩,
  ⟨some 83, .call 30 [(.t 80), (.t 82)], none⟩,
  ⟨some 84, .faddr 1 (.t 14), none⟩,
  ⟨some 85, .load 1 false (.t 84), none⟩,
  ⟨some 86, .bin .add (.t 83) (.t 85), none⟩,
  ⟨some 87, .faddr 4 (.t 15), none⟩,
  ⟨none, .store 1 (.t 87) (.t 86), none⟩]
@[simp] def f10r20 : List ROper := [
  ⟨some 89, .faddr 2 (.t 13), none⟩,
  ⟨some 90, .load 1 false (.t 89), none⟩,
  ⟨some 91, .bin .eql (.t 90) (.c (.int .i64 (.ofNat 7))), none⟩,
  ⟨some 88, .mv (.t 91), none⟩]
@[simp] def f10r21 : List ROper := [
  ⟨some 92, .mv (.t 8), none⟩,
  ⟨some 93, .iaddr 1 (.t 92) (.c (.int .i64 (.ofNat 0))), none⟩,
  ⟨some 94, .load 1 false (.t 93), none⟩,
  ⟨some 95, .faddr 3 (.t 15), none⟩,
  ⟨some 96, .load 1 false (.t 95), none⟩,
  ⟨some 97, .call 31 [(.t 94), (.t 96)], none⟩,
  ⟨some 98, .faddr 4 (.t 15), none⟩,
  ⟨none, .store 1 (.t 98) (.t 97), none⟩]
@[simp] def f10r22 : List ROper := [
  ⟨some 99, .mv (.t 8), none⟩,
  ⟨some 100, .slice false 1 (.t 99) (some (.c (.int .i64 (.ofNat 1)))) none none, none⟩,
  ⟨some 8, .mv (.t 100), none⟩]
def f10K2 : RC := .block 2 (.seq (.region f10r18 [1, 7, 8, 9, 10, 11, 13, 14, 15, 16, 17, 34, 35, 36, 73]) (.cond (.t 73) (.dregion f10r19 [] [] [1, 7, 8, 9, 10, 11, 14, 15, 16, 17, 34, 35, 36]) (.seq (.region f10r20 [1, 7, 8, 9, 10, 11, 14, 15, 16, 17, 34, 35, 36, 88]) (.cond (.t 88) (.seq (.dregion f10r21 [] [] [1, 7, 8, 9, 10, 11, 14, 15, 16, 17, 34, 35, 36]) (.region f10r22 [1, 7, 8, 9, 10, 11, 14, 15, 16, 17, 34, 35, 36])) .skip))))
@[simp] def f10r23 : List ROper := [
  ⟨some 101, .mv (.t 17), none⟩,
  ⟨some 102, .mv (.t 101), none⟩,
  ⟨some 103, .faddr 2 (.t 14), some (102, true)⟩,
  ⟨some 104, .load 1 false (.t 103), some (102, true)⟩,
  ⟨some 105, .bin .eql (.t 104) (.c (.int .i64 (.ofNat 1))), some (102, true)⟩,
  ⟨some 106, .pick (.t 102) (.t 105) (.c (.bool false)), none⟩,
  ⟨some 107, .mv (.t 106), none⟩,
  ⟨some 108, .mv (.t 10), some (107, true)⟩,
  ⟨some 109, .pick (.t 107) (.t 108) (.c (.bool false)), none⟩,
  ⟨some 110, .mv (.t 109), none⟩,
  ⟨some 111, .mv (.t 9), some (110, true)⟩,
  ⟨some 112, .mv (.t 9), some (110, true)⟩,
  ⟨some 113, .len .slice (.t 112), some (110, true)⟩,
  ⟨some 114, .bin .sub (.t 113) (.c (.int .i64 (.ofNat 1))), some (110, true)⟩,
  ⟨some 115, .iaddr 6 (.t 111) (.t 114), some (110, true)⟩,
  ⟨some 116, .faddr 3 (.t 115), some (110, true)⟩,
  ⟨some 117, .load 1 false (.t 116), some (110, true)⟩,
  ⟨some 118, .faddr 3 (.t 15), some (110, true)⟩,
  ⟨some 119, .load 1 false (.t 118), some (110, true)⟩,
  ⟨some 120, .bin .eql (.t 117) (.t 119), some (110, true)⟩,
  ⟨some 121, .pick (.t 110) (.t 120) (.c (.bool false)), none⟩]
@[simp] def f10r24 : List ROper := [
  ⟨some 122, .mv (.t 11), none⟩,
  ⟨some 123, .mv (.t 16), none⟩,
  ⟨some 124, .faddr 3 (.t 15), none⟩,
  ⟨some 125, .load 1 false (.t 124), none⟩,
  ⟨some 126, .call 32 [(.t 122), (.t 123), (.t 125)], none⟩,
  ⟨some 127, .faddr 5 (.t 15), none⟩,
  ⟨none, .store 1 (.t 127) (.t 126), none⟩]
@[simp] def f10r25 : List ROper := [
  ⟨some 128, .mv (.t 17), none⟩,
  ⟨some 129, .mv (.t 128), none⟩,
  ⟨some 130, .faddr 2 (.t 14), some (129, true)⟩,
  ⟨some 131, .load 1 false (.t 130), some (129, true)⟩,
  ⟨some 132, .bin .eql (.t 131) (.c (.int .i64 (.ofNat 1))), some (129, true)⟩,
  ⟨some 133, .pick (.t 129) (.t 132) (.c (.bool false)), none⟩,
  ⟨some 134, .mv (.t 16), none⟩,
  ⟨some 10, .mv (.t 133), none⟩,
  ⟨some 11, .mv (.t 134), none⟩]
@[simp] def f10r26 : List ROper := [
  ⟨some 135, .mv (.t 9), none⟩,
  ⟨some 136, .load 6 true (.t 15), none⟩,
  ⟨some 137, .lit 6 true [(.int .i64 (.ofNat 0)), (.int .i64 (.ofNat 0)), (.int .i64 (.ofNat 0)), (.int .i64 (.ofNat 0)), (.int .i64 (.ofNat 0)), (.int .i64 (.ofNat 0))] 1 [(0, (.t 136))], none⟩,
  ⟨some 138, .append 6 true 48 (.t 135) (.t 137), none⟩,
  ⟨some 9, .mv (.t 138), none⟩]
@[simp] def f10r27 : List ROper := [
  ⟨some 139, .bin .add (.t 36) (.c (.int .i64 (.ofNat 1))), none⟩,
  ⟨some 36, .mv (.t 139), none⟩]
def f10B0 : RC := (.seq (.region f10r10 [1, 7, 8, 9, 10, 11, 34, 35, 36, 37]) (.seq (.cond (.t 37) .skip (.exit 0)) (.seq (.block 1 (.seq (.region f10r11 [1, 7, 8, 9, 10, 11, 13, 34, 35, 36]) (.seq (.region f10r12 [1, 7, 8, 9, 10, 11, 13, 14, 34, 35, 36]) (.seq (.region f10r13 [1, 7, 8, 9, 10, 11, 13, 14, 15, 34, 35, 36]) (.seq (.seq (.region f10r14 [1, 7, 8, 9, 10, 11, 13, 14, 15, 34, 35, 36, 55]) (.cond (.t 55) (.region f10r15 [1, 7, 8, 9, 10, 11, 13, 14, 15, 34, 35, 36]) .skip)) (.seq (.region f10r16 [1, 7, 8, 9, 10, 11, 13, 14, 15, 16, 34, 35, 36]) (.seq (.region f10r17 [1, 7, 8, 9, 10, 11, 13, 14, 15, 16, 17, 34, 35, 36]) (.seq f10K2 (.seq (.seq (.dregion f10r23 [] [] [1, 7, 8, 9, 11, 14, 15, 16, 17, 34, 35, 36, 121]) (.cond (.t 121) (.region f10r24 [1, 7, 8, 9, 14, 15, 16, 17, 34, 35, 36]) .skip)) (.seq (.region f10r25 [1, 7, 8, 9, 10, 11, 15, 34, 35, 36]) (.region f10r26 [1, 7, 8, 9, 10, 11, 34, 35, 36]))))))))))) (.region f10r27 [1, 7, 8, 9, 10, 11, 34, 35, 36]))))
def f10L0 : RC := .loop [1, 7, 8, 9, 10, 11, 34, 35, 36] f10B0
@[simp] def f10r28 : List ROper := [
  ⟨some 140, .mv (.t 9), none⟩,
  ⟨some 2, .mv (.t 140), none⟩,
  ⟨some 3, .mv (.c (.int .i64 (.ofNat 0))), none⟩]
def f10 : RFunc := ⟨[.t 2, .t 3], (.seq (.region f10r0 [1]) (.seq (.seq (.region f10r1 [1, 4]) (.seq (.region f10r2 [1, 4, 21]) (.cond (.t 21) (.seq (.region f10r3 [2, 3]) .ret) .skip))) (.seq (.region f10r4 [1, 5]) (.seq (.region f10r5 [1, 5, 7]) (.seq (.region f10r6 [1, 5, 7, 8]) (.seq (.region f10r7 [1, 5, 7, 8, 9]) (.seq (.region f10r8 [1, 5, 7, 8, 9, 10, 11]) (.seq (.seq (.region f10r9 [1, 7, 8, 9, 10, 11, 34, 35, 36]) (.block 0 f10L0)) (.seq (.region f10r28 [2, 3]) .ret))))))))), true⟩

/-! quire/quireref07.Masses -/
@[simp] def f11r0 : List ROper := [
  ⟨some 1, .box 21 (.t 0), none⟩,
  ⟨some 2, .mv (.c (.list 0 0 .no false [])), none⟩,
  ⟨some 3, .mv (.c (.int .i64 (.ofNat 0))), none⟩]
@[simp] def f11r1 : List ROper := [
  ⟨some 13, .load 21 true (.t 1), none⟩,
  ⟨some 14, .call 14 [(.t 13)], none⟩,
  ⟨some 4, .mv (.t 14), none⟩]
@[simp] def f11r2 : List ROper := [
  ⟨some 15, .mv (.t 4), none⟩,
  ⟨some 16, .bin .neq (.t 15) (.c (.int .i64 (.ofNat 0))), none⟩]
@[simp] def f11r3 : List ROper := [
  ⟨some 17, .mv (.t 4), none⟩,
  ⟨some 2, .mv (.c (.list 0 0 .no false [])), none⟩,
  ⟨some 3, .mv (.t 17), none⟩]
@[simp] def f11r4 : List ROper := [
  ⟨some 19, .faddr 0 (.t 1), none⟩,
  ⟨some 20, .load 1 false (.t 19), none⟩,
  ⟨some 21, .call 33 [(.t 20)], none⟩,
  ⟨some 18, .mv (.t 21), none⟩,
  ⟨some 22, .extract (.t 18) 0, none⟩,
  ⟨some 23, .extract (.t 18) 1, none⟩,
  ⟨some 5, .mv (.t 22), none⟩,
  ⟨some 6, .mv (.t 23), none⟩]
@[simp] def f11r5 : List ROper := [
  ⟨some 7, .mv (.c (.list 0 0 .no false [])), none⟩]
@[simp] def f11r6 : List ROper := [
  ⟨some 8, .mv (.c (.int .i64 (.ofNat 0))), none⟩]
@[simp] def f11r7 : List ROper := [
  ⟨some 9, .mv (.c (.int .i64 (.ofNat 0))), none⟩]
@[simp] def f11r8 : List ROper := [
  ⟨some 24, .mv (.t 9), none⟩,
  ⟨some 25, .mv (.t 5), none⟩,
  ⟨some 26, .len .slice (.t 25), none⟩,
  ⟨some 27, .bin .lss (.t 24) (.t 26), none⟩]
@[simp] def f11r9 : List ROper := [
  ⟨some 30, .mv (.t 5), none⟩,
  ⟨some 31, .mv (.t 9), none⟩,
  ⟨some 32, .iaddr 3 (.t 30) (.t 31), none⟩,
  ⟨some 33, .load 3 true (.t 32), none⟩,
  ⟨some 10, .alloc [(.int .i64 (.ofNat 0)), (.int .i64 (.ofNat 0)), (.int .i64 (.ofNat 0))], none⟩,
  ⟨none, .store 3 (.t 10) (.t 33), none⟩]
@[simp] def f11r10 : List ROper := [
  ⟨some 34, .faddr 0 (.t 10), none⟩,
  ⟨some 35, .load 1 false (.t 34), none⟩,
  ⟨some 36, .faddr 1 (.t 10), none⟩,
  ⟨some 37, .load 1 false (.t 36), none⟩,
  ⟨some 38, .faddr 2 (.t 10), none⟩,
  ⟨some 39, .load 1 false (.t 38), none⟩,
  ⟨some 40, .load 21 true (.t 1), none⟩,
  ⟨some 41, .faddr 0 (.t 10), none⟩,
  ⟨some 42, .load 1 false (.t 41), none⟩,
  ⟨some 43, .call 34 [(.t 40), (.t 42)], none⟩,
  ⟨some 44, .build [(.int .i64 (.ofNat 0)), (.int .i64 (.ofNat 0)), (.int .i64 (.ofNat 0)), (.int .i64 (.ofNat 0)), (.int .i64 (.ofNat 0)), (.int .i64 (.ofNat 0))] [(0, 1, (.t 35)), (1, 1, (.t 37)), (2, 1, (.t 39)), (3, 1, (.t 43))], none⟩,
  ⟨some 11, .alloc [(.int .i64 (.ofNat 0)), (.int .i64 (.ofNat 0)), (.int .i64 (.ofNat 0)), (.int .i64 (.ofNat 0)), (.int .i64 (.ofNat 0)), (.int .i64 (.ofNat 0))], none⟩,
  ⟨none, .store 6 (.t 11) (.t 44), none⟩]
@[simp] def f11r11 : List ROper := [
  ⟨some 45, .load 21 true (.t 1), none⟩,
  ⟨some 46, .faddr 0 (.t 10), none⟩,
  ⟨some 47, .load 1 false (.t 46), none⟩,
  ⟨some 48, .call 35 [(.t 45), (.t 47)], none⟩,
  ⟨some 12, .alloc [(.int .i64 (.ofNat 0)), (.int .i64 (.ofNat 0)), (.int .i64 (.ofNat 0))], none⟩,
  ⟨none, .store 3 (.t 12) (.t 48), none⟩]
@[simp] def f11r12 : List ROper := [
  ⟨some 49, .faddr 2 (.t 10), none⟩,
  ⟨some 50, .load 1 false (.t 49), none⟩,
  ⟨some 51, .call 36 [(.t 50)], none⟩,
  ⟨some 52, .mv (.t 51), none⟩,
  ⟨some 53, .faddr 2 (.t 10), some (52, false)⟩,
  ⟨some 54, .load 1 false (.t 53), some (52, false)⟩,
  ⟨some 55, .bin .eql (.t 54) (.c (.int .i64 (.ofNat 3))), some (52, false)⟩,
  ⟨some 56, .pick (.t 52) (.c (.bool true)) (.t 55), none⟩]
@[simp] def f11r13 : List ROper := [
  ⟨some 57, .faddr 0 (.t 1), none⟩,
  ⟨some 58, .load 1 false (.t 57), none⟩,
  ⟨some 59, .faddr 0 (.t 10), none⟩,
  ⟨some 60, .load 1 false (.t 59), none⟩,
  ⟨some 61, .index (.t 58) (.t 60), none⟩,
  ⟨some 62, .faddr 3 (.t 11), none⟩,
  ⟨some 63, .load 1 false (.t 62), none⟩,
  ⟨some 64, .call 37 [(.t 61), (.t 63)], none⟩,
  ⟨some 65, .faddr 1 (.t 12), none⟩,
  ⟨some 66, .load 1 false (.t 65), none⟩,
  ⟨some 67, .bin .add (.t 64) (.t 66), none⟩,
  ⟨some 68, .faddr 4 (.t 11), none⟩,
  ⟨none, .store 1 (.t 68) (.t 67), none⟩]
@[simp] def f11r14 : List ROper := [
  ⟨some 69, .faddr 2 (.t 10), none⟩,
  ⟨some 70, .load 1 false (.t 69), none⟩,
  ⟨some 71, .bin .eql (.t 70) (.c (.int .i64 (.ofNat 7))), none⟩]
@[simp] def f11r15 : List ROper := [
  ⟨some 72, .faddr 20 (.t 1), none⟩,
  ⟨some 73, .load 1 false (.t 72), none⟩,
  ⟨some 74, .mv (.t 8), none⟩,
  ⟨some 75, .iaddr 1 (.t 73) (.t 74), none⟩,
  ⟨some 76, .load 1 false (.t 75), none⟩,
  ⟨some 77, .faddr 3 (.t 11), none⟩,
  ⟨some 78, .load 1 false (.t 77), none⟩,
  ⟨some 79, .call 38 [(.t 76), (.t 78)], none⟩,
  ⟨some 80, .faddr 4 (.t 11), none⟩,
  ⟨none, .store 1 (.t 80) (.t 79), none⟩]
@[simp] def f11r16 : List ROper := [
  ⟨some 81, .mv (.t 8), none⟩,
  ⟨some 82, .bin .add (.t 81) (.c (.int .i64 (.ofNat 1))), none⟩,
  ⟨some 8, .mv (.t 82), none⟩]
@[simp] def f11r17 : List ROper := [
  ⟨some 83, .mv (.t 9), none⟩,
  ⟨some 84, .bin .gtr (.t 83) (.c (.int .i64 (.ofNat 0))), none⟩,
  ⟨some 85, .mv (.t 84), none⟩,
  ⟨some 86, .faddr 2 (.t 10), some (85, true)⟩,
  ⟨some 87, .load 1 false (.t 86), some (85, true)⟩,
  ⟨some 88, .call 36 [(.t 87)], some (85, true)⟩,
  ⟨some 89, .pick (.t 85) (.t 88) (.c (.bool false)), none⟩,
  ⟨some 90, .mv (.t 89), none⟩,
  ⟨some 91, .mv (.t 5), some (90, true)⟩,
  ⟨some 92, .mv (.t 9), some (90, true)⟩,
  ⟨some 93, .bin .sub (.t 92) (.c (.int .i64 (.ofNat 1))), some (90, true)⟩,
  ⟨some 94, .iaddr 3 (.t 91) (.t 93), some (90, true)⟩,
  ⟨some 95, .faddr 2 (.t 94), some (90, true)⟩,
  ⟨some 96, .load 1 false (.t 95), some (90, true)⟩,
  ⟨some 97, .call 36 [(.t 96)], some (90, true)⟩,
  ⟨some 98, .pick (.t 90) (.t 97) (.c (.bool false)), none⟩,
  ⟨some 99, .mv (.t 98), none⟩,
  ⟨some 100, .faddr 2 (.t 12), some (99, true)⟩,
  ⟨some 101, .load 1 false (.t 100), some (99, true)⟩,
  ⟨some 102, .bin .eql (.t 101) (.c (.int .i64 (.ofNat 1))), some (99, true)⟩,
  ⟨some 103, .pick (.t 99) (.t 102) (.c (.bool false)), none⟩,
  ⟨some 104, .mv (.t 103), none⟩,
  ⟨some 105, .load 21 true (.t 1), some (104, true)⟩,
  ⟨some 106, .mv (.t 5), some (104, true)⟩,
  ⟨some 107, .mv (.t 9), some (104, true)⟩,
  ⟨some 108, .bin .sub (.t 107) (.c (.int .i64 (.ofNat 1))), some (104, true)⟩,
  ⟨some 109, .iaddr 3 (.t 106) (.t 108), some (104, true)⟩,
  ⟨some 110, .faddr 0 (.t 109), some (104, true)⟩,
  ⟨some 111, .load 1 false (.t 110), some (104, true)⟩,
  ⟨some 112, .call 35 [(.t 105), (.t 111)], some (104, true)⟩,
  ⟨some 113, .field 1 false 2 (.t 112), some (104, true)⟩,
  ⟨some 114, .bin .eql (.t 113) (.c (.int .i64 (.ofNat 1))), some (104, true)⟩,
  ⟨some 115, .pick (.t 104) (.t 114) (.c (.bool false)), none⟩,
  ⟨some 116, .mv (.t 115), none⟩,
  ⟨some 117, .mv (.t 7), some (116, true)⟩,
  ⟨some 118, .mv (.t 9), some (116, true)⟩,
  ⟨some 119, .bin .sub (.t 118) (.c (.int .i64 (.ofNat 1))), some (116, true)⟩,
  ⟨some 120, .iaddr 6 (.t 117) (.t 119), some (116, true)⟩,
  ⟨some 121, .faddr 3 (.t 120), some (116, true)⟩,
  ⟨some 122, .load 1 false (.t 121), some (116, true)⟩,
  ⟨some 123, .faddr 3 (.t 11), some (116, true)⟩,
  ⟨some 124, .load 1 false (.t 123), some (116, true)⟩,
  ⟨some 125, .bin .eql (.t 122) (.t 124), some (116, true)⟩,
  ⟨some 126, .pick (.t 116) (.t 125) (.c (.bool false)), none⟩]
@[simp] def f11r18 : List ROper := [
  ⟨some 127, .faddr 0 (.t 1), none⟩,
  ⟨some 128, .load 1 false (.t 127), none⟩,
  ⟨some 129, .mv (.t 5), none⟩,
  ⟨some 130, .mv (.t 9), none⟩,
  ⟨some 131, .bin .sub (.t 130) (.c (.int .i64 (.ofNat 1))), none⟩,
  ⟨some 132, .iaddr 3 (.t 129) (.t 131), none⟩,
  ⟨some 133, .faddr 0 (.t 132), none⟩,
  ⟨some 134, .load 1 false (.t 133), none⟩,
  ⟨some 135, .index (.t 128) (.t 134), none⟩,
  ⟨some 136, .faddr 0 (.t 1), none⟩,
  ⟨some 137, .load 1 false (.t 136), none⟩,
  ⟨some 138, .faddr 0 (.t 10), none⟩,
  ⟨some 139, .load 1 false (.t 138), none⟩,
  ⟨some 140, .index (.t 137) (.t 139), none⟩,
  ⟨some 141, .faddr 3 (.t 11), none⟩,
  ⟨some 142, .load 1 false (.t 141), none⟩,
  ⟨some 143, .call 39 [(.t 135), (.t 140), (.t 142)], none⟩,
  ⟨some 144, .faddr 5 (.t 11), none⟩,
  ⟨none, .store 1 (.t 144) (.t 143), none⟩]
@[simp] def f11r19 : List ROper := [
  ⟨some 145, .mv (.t 7), none⟩,
  ⟨some 146, .load 6 true (.t 11), none⟩,
  ⟨some 147, .lit 6 true [(.int .i64 (.ofNat 0)), (.int .i64 (.ofNat 0)), (.int .i64 (.ofNat 0)), (.int .i64 (.ofNat 0)), (.int .i64 (.ofNat 0)), (.int .i64 (.ofNat 0))] 1 [(0, (.t 146))], none⟩,
  ⟨some 148, .append 6 true 48 (.t 145) (.t 147), none⟩,
  ⟨some 7, .mv (.t 148), none⟩]
@[simp] def f11r20 : List ROper := [
  ⟨some 28, .mv (.t 9), none⟩,
  ⟨some 29, .bin .add (.t 28) (.c (.int .i64 (.ofNat 1))), none⟩,
  ⟨some 9, .mv (.t 29), none⟩]
def f11B0 : RC := (.seq (.seq (.region f11r8 [1, 5, 7, 8, 9, 27]) (.cond (.t 27) .skip (.exit 0))) (.seq (.block 1 (.seq (.region f11r9 [1, 5, 7, 8, 9, 10]) (.seq (.dregion f11r10 [] [(1, [1]), (3, [1]), (5, [1]), (6, [1]), (8, [1]), (9, [1])] [1, 5, 7, 8, 9, 10, 11]) (.seq (.region f11r11 [1, 5, 7, 8, 9, 10, 11, 12]) (.seq (.seq (.region f11r12 [1, 5, 7, 8, 9, 10, 11, 12, 56]) (.cond (.t 56) (.dregion f11r13 [] [] [1, 5, 7, 8, 9, 10, 11, 12]) .skip)) (.seq (.seq (.region f11r14 [1, 5, 7, 8, 9, 10, 11, 12, 71]) (.cond (.t 71) (.seq (.dregion f11r15 [] [] [1, 5, 7, 8, 9, 10, 11, 12]) (.region f11r16 [1, 5, 7, 8, 9, 10, 11, 12])) .skip)) (.seq (.seq (.dregion f11r17 [] [] [1, 5, 7, 8, 9, 10, 11, 126]) (.cond (.t 126) (.dregion f11r18 [] [] [1, 5, 7, 8, 9, 11]) .skip)) (.region f11r19 [1, 5, 7, 8, 9])))))))) (.region f11r20 [1, 5, 7, 8, 9])))
def f11L0 : RC := .loop [1, 5, 7, 8, 9] f11B0
@[simp] def f11r21 : List ROper := [
  ⟨some 149, .mv (.t 7), none⟩,
  ⟨some 2, .mv (.t 149), none⟩,
  ⟨some 3, .mv (.c (.int .i64 (.ofNat 0))), none⟩]
def f11 : RFunc := ⟨[.t 2, .t 3], (.seq (.region f11r0 [1]) (.seq (.region f11r1 [1, 4]) (.seq (.seq (.region f11r2 [1, 4, 16]) (.cond (.t 16) (.seq (.region f11r3 [2, 3]) .ret) .skip)) (.seq (.region f11r4 [1, 5]) (.seq (.region f11r5 [1, 5, 7]) (.seq (.region f11r6 [1, 5, 7, 8]) (.seq (.seq (.region f11r7 [1, 5, 7, 8, 9]) (.block 0 f11L0)) (.seq (.region f11r21 [2, 3]) .ret)))))))), true⟩

/-! quire/metric.Check -/
@[simp] def f13r0 : List ROper := [
  ⟨some 1, .box 21 (.t 0), none⟩,
  ⟨some 2, .mv (.c (.int .i64 (.ofNat 0))), none⟩]
@[simp] def f13r1 : List ROper := [
  ⟨some 8, .faddr 0 (.t 1), none⟩,
  ⟨some 9, .load 1 false (.t 8), none⟩,
  ⟨some 10, .call 27 [(.t 9)], none⟩,
  ⟨some 7, .mv (.t 10), none⟩,
  ⟨some 11, .extract (.t 7) 0, none⟩,
  ⟨some 12, .extract (.t 7) 1, none⟩,
  ⟨some 3, .mv (.t 11), none⟩,
  ⟨some 4, .mv (.t 12), none⟩]
@[simp] def f13r2 : List ROper := [
  ⟨some 13, .mv (.t 4), none⟩,
  ⟨some 14, .bin .neq (.t 13) (.c (.int .i64 (.ofNat 0))), none⟩]
@[simp] def f13r3 : List ROper := [
  ⟨some 15, .mv (.t 4), none⟩,
  ⟨some 2, .mv (.t 15), none⟩]
@[simp] def f13r4 : List ROper := [
  ⟨some 16, .faddr 0 (.t 1), none⟩,
  ⟨some 17, .load 1 false (.t 16), none⟩,
  ⟨some 18, .call 40 [(.t 17), (.c (.int .u8 (.ofNat 3)))], none⟩,
  ⟨some 19, .bin .geq (.t 18) (.c (.int .i64 (.ofNat 0))), none⟩]
@[simp] def f13r5 : List ROper := [
  ⟨some 2, .mv (.c (.int .i64 (.ofNat 4))), none⟩]
@[simp] def f13r6 : List ROper := [
  ⟨some 20, .faddr 1 (.t 1), none⟩,
  ⟨some 21, .load 1 false (.t 20), none⟩,
  ⟨some 22, .faddr 0 (.t 1), none⟩,
  ⟨some 23, .load 1 false (.t 22), none⟩,
  ⟨some 24, .len .str (.t 23), none⟩,
  ⟨some 25, .call 41 [(.t 21), (.t 24)], none⟩,
  ⟨some 26, .un .not (.t 25), none⟩,
  ⟨some 27, .mv (.t 26), none⟩,
  ⟨some 28, .faddr 2 (.t 1), some (27, false)⟩,
  ⟨some 29, .load 17 true (.t 28), some (27, false)⟩,
  ⟨some 30, .call 42 [(.t 29)], some (27, false)⟩,
  ⟨some 31, .un .not (.t 30), some (27, false)⟩,
  ⟨some 32, .pick (.t 27) (.c (.bool true)) (.t 31), none⟩,
  ⟨some 33, .mv (.t 32), none⟩,
  ⟨some 34, .faddr 19 (.t 1), some (33, false)⟩,
  ⟨some 35, .load 1 false (.t 34), some (33, false)⟩,
  ⟨some 36, .call 43 [(.t 35), (.c (.int .i64 (.ofNat 16)))], some (33, false)⟩,
  ⟨some 37, .un .not (.t 36), some (33, false)⟩,
  ⟨some 38, .pick (.t 33) (.c (.bool true)) (.t 37), none⟩,
  ⟨some 39, .mv (.t 38), none⟩,
  ⟨some 40, .faddr 20 (.t 1), some (39, false)⟩,
  ⟨some 41, .load 1 false (.t 40), some (39, false)⟩,
  ⟨some 42, .len .slice (.t 41), some (39, false)⟩,
  ⟨some 43, .faddr 0 (.t 1), some (39, false)⟩,
  ⟨some 44, .load 1 false (.t 43), some (39, false)⟩,
  ⟨some 45, .call 44 [(.t 44), (.c (.str [2]))], some (39, false)⟩,
  ⟨some 46, .bin .neq (.t 42) (.t 45), some (39, false)⟩,
  ⟨some 47, .pick (.t 39) (.c (.bool true)) (.t 46), none⟩]
@[simp] def f13r7 : List ROper := [
  ⟨some 2, .mv (.c (.int .i64 (.ofNat 2))), none⟩]
@[simp] def f13r8 : List ROper := [
  ⟨some 48, .faddr 20 (.t 1), none⟩,
  ⟨some 49, .load 1 false (.t 48), none⟩,
  ⟨some 50, .len .slice (.t 49), none⟩,
  ⟨some 51, .mv (.c (.int .i64 (.ofNat 0))), none⟩]
@[simp] def f13r9 : List ROper := [
  ⟨some 52, .bin .lss (.t 51) (.t 50), none⟩]
@[simp] def f13r10 : List ROper := [
  ⟨some 53, .iaddr 1 (.t 49) (.t 51), none⟩,
  ⟨some 54, .load 1 false (.t 53), none⟩,
  ⟨some 6, .mv (.t 54), none⟩]
@[simp] def f13r11 : List ROper := [
  ⟨some 55, .mv (.t 6), none⟩,
  ⟨some 56, .bin .eql (.t 55) (.c (.str [])), none⟩,
  ⟨some 57, .mv (.t 56), none⟩,
  ⟨some 58, .mv (.t 6), some (57, false)⟩,
  ⟨some 59, .call 43 [(.t 58), (.c (.int .i64 (.ofNat 8)))], some (57, false)⟩,
  ⟨some 60, .un .not (.t 59), some (57, false)⟩,
  ⟨some 61, .pick (.t 57) (.c (.bool true)) (.t 60), none⟩]
@[simp] def f13r12 : List ROper := [
  ⟨some 2, .mv (.c (.int .i64 (.ofNat 2))), none⟩]
@[simp] def f13r13 : List ROper := [
  ⟨some 62, .bin .add (.t 51) (.c (.int .i64 (.ofNat 1))), none⟩,
  ⟨some 51, .mv (.t 62), none⟩]
def f13B0 : RC := (.seq (.region f13r9 [49, 50, 51, 52]) (.seq (.cond (.t 52) .skip (.exit 0)) (.seq (.block 1 (.seq (.region f13r10 [6, 49, 50, 51]) (.seq (.region f13r11 [49, 50, 51, 61]) (.cond (.t 61) (.seq (.region f13r12 [2]) .ret) .skip)))) (.region f13r13 [49, 50, 51]))))
def f13L0 : RC := .loop [49, 50, 51] f13B0
@[simp] def f13r14 : List ROper := [
  ⟨some 2, .mv (.c (.int .i64 (.ofNat 0))), none⟩]
def f13 : RFunc := ⟨[.t 2], (.seq (.region f13r0 [1]) (.seq (.seq (.region f13r1 [1, 4]) (.seq (.region f13r2 [1, 4, 14]) (.cond (.t 14) (.seq (.region f13r3 [2]) .ret) .skip))) (.seq (.seq (.region f13r4 [1, 19]) (.cond (.t 19) (.seq (.region f13r5 [2]) .ret) .skip)) (.seq (.seq (.dregion f13r6 [] [] [1, 47]) (.cond (.t 47) (.seq (.region f13r7 [2]) .ret) .skip)) (.seq (.seq (.region f13r8 [49, 50, 51]) (.block 0 f13L0)) (.seq (.region f13r14 [2]) .ret)))))), true⟩

/-! quire/quireref07.Check -/
@[simp] def f14r0 : List ROper := [
  ⟨some 1, .box 21 (.t 0), none⟩,
  ⟨some 2, .mv (.c (.int .i64 (.ofNat 0))), none⟩]
@[simp] def f14r1 : List ROper := [
  ⟨some 10, .faddr 0 (.t 1), none⟩,
  ⟨some 11, .load 1 false (.t 10), none⟩,
  ⟨some 12, .call 45 [(.t 11)], none⟩,
  ⟨some 3, .mv (.t 12), none⟩]
@[simp] def f14r2 : List ROper := [
  ⟨some 13, .mv (.t 3), none⟩,
  ⟨some 14, .bin .neq (.t 13) (.c (.int .i64 (.ofNat 0))), none⟩]
@[simp] def f14r3 : List ROper := [
  ⟨some 15, .mv (.t 3), none⟩,
  ⟨some 2, .mv (.t 15), none⟩]
@[simp] def f14r4 : List ROper := [
  ⟨some 4, .mv (.c (.int .i64 (.ofNat 0))), none⟩]
@[simp] def f14r5 : List ROper := [
  ⟨some 5, .mv (.c (.int .i64 (.ofNat 0))), none⟩]
@[simp] def f14r6 : List ROper := [
  ⟨some 16, .mv (.t 5), none⟩,
  ⟨some 17, .faddr 0 (.t 1), none⟩,
  ⟨some 18, .load 1 false (.t 17), none⟩,
  ⟨some 19, .len .str (.t 18), none⟩,
  ⟨some 20, .bin .lss (.t 16) (.t 19), none⟩]
@[simp] def f14r7 : List ROper := [
  ⟨some 23, .faddr 0 (.t 1), none⟩,
  ⟨some 24, .load 1 false (.t 23), none⟩,
  ⟨some 25, .mv (.t 5), none⟩,
  ⟨some 26, .index (.t 24) (.t 25), none⟩,
  ⟨some 27, .bin .eql (.t 26) (.c (.int .u8 (.ofNat 3))), none⟩]
@[simp] def f14r8 : List ROper := [
  ⟨some 2, .mv (.c (.int .i64 (.ofNat 4))), none⟩]
@[simp] def f14r9 : List ROper := [
  ⟨some 28, .faddr 0 (.t 1), none⟩,
  ⟨some 29, .load 1 false (.t 28), none⟩,
  ⟨some 30, .mv (.t 5), none⟩,
  ⟨some 31, .index (.t 29) (.t 30), none⟩,
  ⟨some 32, .bin .eql (.t 31) (.c (.int .u8 (.ofNat 2))), none⟩]
@[simp] def f14r10 : List ROper := [
  ⟨some 33, .mv (.t 4), none⟩,
  ⟨some 34, .bin .add (.t 33) (.c (.int .i64 (.ofNat 1))), none⟩,
  ⟨some 4, .mv (.t 34), none⟩]
@[simp] def f14r11 : List ROper := [
  ⟨some 21, .mv (.t 5), none⟩,
  ⟨some 22, .bin .add (.t 21) (.c (.int .i64 (.ofNat 1))), none⟩,
  ⟨some 5, .mv (.t 22), none⟩]
def f14B0 : RC := (.seq (.seq (.region f14r6 [1, 4, 5, 20]) (.cond (.t 20) .skip (.exit 0))) (.seq (.block 1 (.seq (.seq (.region f14r7 [1, 4, 5, 27]) (.cond (.t 27) (.seq (.region f14r8 [2]) .ret) .skip)) (.seq (.region f14r9 [1, 4, 5, 32]) (.cond (.t 32) (.region f14r10 [1, 4, 5]) .skip)))) (.region f14r11 [1, 4, 5])))
def f14L0 : RC := .loop [1, 4, 5] f14B0
@[simp] def f14r12 : List ROper := [
  ⟨some 35, .faddr 0 (.t 1), none⟩,
  ⟨some 36, .load 1 false (.t 35), none⟩,
  ⟨some 37, .len .str (.t 36), none⟩,
  ⟨some 6, .mv (.t 37), none⟩]
@[simp] def f14r13 : List ROper := [
  ⟨some 7, .mv (.c (.int .i64 (.ofNat 0))), none⟩]
@[simp] def f14r14 : List ROper := [
  ⟨some 38, .mv (.t 7), none⟩,
  ⟨some 39, .faddr 1 (.t 1), none⟩,
  ⟨some 40, .load 1 false (.t 39), none⟩,
  ⟨some 41, .len .slice (.t 40), none⟩,
  ⟨some 42, .bin .lss (.t 38) (.t 41), none⟩]
@[simp] def f14r15 : List ROper := [
  ⟨some 45, .faddr 1 (.t 1), none⟩,
  ⟨some 46, .load 1 false (.t 45), none⟩,
  ⟨some 47, .mv (.t 7), none⟩,
  ⟨some 48, .iaddr 4 (.t 46) (.t 47), none⟩,
  ⟨some 49, .load 4 true (.t 48), none⟩,
  ⟨some 8, .alloc [(.int .i64 (.ofNat 0)), (.int .i64 (.ofNat 0)), (.int .i64 (.ofNat 0)), (.int .i64 (.ofNat 0))], none⟩,
  ⟨none, .store 4 (.t 8) (.t 49), none⟩]
@[simp] def f14r16 : List ROper := [
  ⟨some 50, .faddr 0 (.t 8), none⟩,
  ⟨some 51, .load 1 false (.t 50), none⟩,
  ⟨some 52, .bin .lss (.t 51) (.c (.int .i64 (.ofNat 1))), none⟩,
  ⟨some 53, .mv (.t 52), none⟩,
  ⟨some 54, .faddr 0 (.t 8), some (53, false)⟩,
  ⟨some 55, .load 1 false (.t 54), some (53, false)⟩,
  ⟨some 56, .mv (.t 6), some (53, false)⟩,
  ⟨some 57, .bin .gtr (.t 55) (.t 56), some (53, false)⟩,
  ⟨some 58, .pick (.t 53) (.c (.bool true)) (.t 57), none⟩,
  ⟨some 59, .mv (.t 58), none⟩,
  ⟨some 60, .faddr 1 (.t 8), some (59, false)⟩,
  ⟨some 61, .load 3 true (.t 60), some (59, false)⟩,
  ⟨some 62, .call 46 [(.t 61)], some (59, false)⟩,
  ⟨some 63, .un .not (.t 62), some (59, false)⟩,
  ⟨some 64, .pick (.t 59) (.c (.bool true)) (.t 63), none⟩]
@[simp] def f14r17 : List ROper := [
  ⟨some 2, .mv (.c (.int .i64 (.ofNat 2))), none⟩]
@[simp] def f14r18 : List ROper := [
  ⟨some 65, .mv (.t 6), none⟩,
  ⟨some 66, .faddr 0 (.t 8), none⟩,
  ⟨some 67, .load 1 false (.t 66), none⟩,
  ⟨some 68, .bin .sub (.t 65) (.t 67), none⟩,
  ⟨some 6, .mv (.t 68), none⟩]
@[simp] def f14r19 : List ROper := [
  ⟨some 43, .mv (.t 7), none⟩,
  ⟨some 44, .bin .add (.t 43) (.c (.int .i64 (.ofNat 1))), none⟩,
  ⟨some 7, .mv (.t 44), none⟩]
def f14B1 : RC := (.seq (.seq (.region f14r14 [1, 4, 6, 7, 42]) (.cond (.t 42) .skip (.exit 2))) (.seq (.block 3 (.seq (.region f14r15 [1, 4, 6, 7, 8]) (.seq (.seq (.region f14r16 [1, 4, 6, 7, 8, 64]) (.cond (.t 64) (.seq (.region f14r17 [2]) .ret) .skip)) (.region f14r18 [1, 4, 6, 7])))) (.region f14r19 [1, 4, 6, 7])))
def f14L1 : RC := .loop [1, 4, 6, 7] f14B1
@[simp] def f14r20 : List ROper := [
  ⟨some 69, .mv (.t 6), none⟩,
  ⟨some 70, .bin .gtr (.t 69) (.c (.int .i64 (.ofNat 0))), none⟩,
  ⟨some 71, .mv (.t 70), none⟩,
  ⟨some 72, .faddr 2 (.t 1), some (71, false)⟩,
  ⟨some 73, .load 17 true (.t 72), some (71, false)⟩,
  ⟨some 74, .call 47 [(.t 73)], some (71, false)⟩,
  ⟨some 75, .un .not (.t 74), some (71, false)⟩,
  ⟨some 76, .pick (.t 71) (.c (.bool true)) (.t 75), none⟩,
  ⟨some 77, .mv (.t 76), none⟩,
  ⟨some 78, .faddr 19 (.t 1), some (77, false)⟩,
  ⟨some 79, .load 1 false (.t 78), some (77, false)⟩,
  ⟨some 80, .call 48 [(.t 79), (.c (.int .i64 (.ofNat 16)))], some (77, false)⟩,
  ⟨some 81, .un .not (.t 80), some (77, false)⟩,
  ⟨some 82, .pick (.t 77) (.c (.bool true)) (.t 81), none⟩,
  ⟨some 83, .mv (.t 82), none⟩,
  ⟨some 84, .faddr 20 (.t 1), some (83, false)⟩,
  ⟨some 85, .load 1 false (.t 84), some (83, false)⟩,
  ⟨some 86, .len .slice (.t 85), some (83, false)⟩,
  ⟨some 87, .mv (.t 4), some (83, false)⟩,
  ⟨some 88, .bin .neq (.t 86) (.t 87), some (83, false)⟩,
  ⟨some 89, .pick (.t 83) (.c (.bool true)) (.t 88), none⟩]
@[simp] def f14r21 : List ROper := [
  ⟨some 2, .mv (.c (.int .i64 (.ofNat 2))), none⟩]
@[simp] def f14r22 : List ROper := [
  ⟨some 9, .mv (.c (.int .i64 (.ofNat 0))), none⟩]
@[simp] def f14r23 : List ROper := [
  ⟨some 90, .mv (.t 9), none⟩,
  ⟨some 91, .faddr 20 (.t 1), none⟩,
  ⟨some 92, .load 1 false (.t 91), none⟩,
  ⟨some 93, .len .slice (.t 92), none⟩,
  ⟨some 94, .bin .lss (.t 90) (.t 93), none⟩]
@[simp] def f14r24 : List ROper := [
  ⟨some 97, .faddr 20 (.t 1), none⟩,
  ⟨some 98, .load 1 false (.t 97), none⟩,
  ⟨some 99, .mv (.t 9), none⟩,
  ⟨some 100, .iaddr 1 (.t 98) (.t 99), none⟩,
  ⟨some 101, .load 1 false (.t 100), none⟩,
  ⟨some 102, .bin .eql (.t 101) (.c (.str [])), none⟩,
  ⟨some 103, .mv (.t 102), none⟩,
  ⟨some 104, .faddr 20 (.t 1), some (103, false)⟩,
  ⟨some 105, .load 1 false (.t 104), some (103, false)⟩,
  ⟨some 106, .mv (.t 9), some (103, false)⟩,
  ⟨some 107, .iaddr 1 (.t 105) (.t 106), some (103, false)⟩,
  ⟨some 108, .load 1 false (.t 107), some (103, false)⟩,
  ⟨some 109, .call 48 [(.t 108), (.c (.int .i64 (.ofNat 8)))], some (103, false)⟩,
  ⟨some 110, .un .not (.t 109), some (103, false)⟩,
  ⟨some 111, .pick (.t 103) (.c (.bool true)) (.t 110), none⟩]
@[simp] def f14r25 : List ROper := [
  ⟨some 2, .mv (.c (.int .i64 (.ofNat 2))), none⟩]
@[simp] def f14r26 : List ROper := [
  ⟨some 95, .mv (.t 9), none⟩,
  ⟨some 96, .bin .add (.t 95) (.c (.int .i64 (.ofNat 1))), none⟩,
  ⟨some 9, .mv (.t 96), none⟩]
def f14B2 : RC := (.seq (.seq (.region f14r23 [1, 9, 94]) (.cond (.t 94) .skip (.exit 4))) (.seq (.block 5 (.seq (.region f14r24 [1, 9, 111]) (.cond (.t 111) (.seq (.region f14r25 [2]) .ret) .skip))) (.region f14r26 [1, 9])))
def f14L2 : RC := .loop [1, 9] f14B2
@[simp] def f14r27 : List ROper := [
  ⟨some 2, .mv (.c (.int .i64 (.ofNat 0))), none⟩]
def f14 : RFunc := ⟨[.t 2], (.seq (.region f14r0 [1]) (.seq (.region f14r1 [1, 3]) (.seq (.seq (.region f14r2 [1, 3, 14]) (.cond (.t 14) (.seq (.region f14r3 [2]) .ret) .skip)) (.seq (.region f14r4 [1, 4]) (.seq (.seq (.region f14r5 [1, 4, 5]) (.block 0 f14L0)) (.seq (.region f14r12 [1, 4, 6]) (.seq (.seq (.region f14r13 [1, 4, 6, 7]) (.block 2 f14L1)) (.seq (.seq (.region f14r20 [1, 89]) (.cond (.t 89) (.seq (.region f14r21 [2]) .ret) .skip)) (.seq (.seq (.region f14r22 [1, 9]) (.block 4 f14L2)) (.seq (.region f14r27 [2]) .ret)))))))))), true⟩

/-! quire/quirekit.SamePara -/
@[simp] def f15r0 : List ROper := [
  ⟨some 2, .box 21 (.t 0), none⟩,
  ⟨some 3, .box 21 (.t 1), none⟩,
  ⟨some 4, .mv (.c (.bool false)), none⟩]
@[simp] def f15r1 : List ROper := [
  ⟨some 5, .faddr 0 (.t 2), none⟩,
  ⟨some 6, .load 1 false (.t 5), none⟩,
  ⟨some 7, .faddr 0 (.t 3), none⟩,
  ⟨some 8, .load 1 false (.t 7), none⟩,
  ⟨some 9, .bin .eql (.t 6) (.t 8), none⟩,
  ⟨some 10, .mv (.t 9), none⟩,
  ⟨some 11, .faddr 1 (.t 2), some (10, true)⟩,
  ⟨some 12, .load 1 false (.t 11), some (10, true)⟩,
  ⟨some 13, .faddr 1 (.t 3), some (10, true)⟩,
  ⟨some 14, .load 1 false (.t 13), some (10, true)⟩,
  ⟨some 15, .call 49 [(.t 12), (.t 14)], some (10, true)⟩,
  ⟨some 16, .pick (.t 10) (.t 15) (.c (.bool false)), none⟩,
  ⟨some 17, .mv (.t 16), none⟩,
  ⟨some 18, .faddr 2 (.t 2), some (17, true)⟩,
  ⟨some 19, .load 17 true (.t 18), some (17, true)⟩,
  ⟨some 20, .faddr 2 (.t 3), some (17, true)⟩,
  ⟨some 21, .load 17 true (.t 20), some (17, true)⟩,
  ⟨some 22, .eq (.agg [.int, .int, .int, .int, .int, .int, .int, .int, .int, .int, .int, .int, .int, .int, .int, .int, .int]) false (.t 19) (.t 21), some (17, true)⟩,
  ⟨some 23, .pick (.t 17) (.t 22) (.c (.bool false)), none⟩,
  ⟨some 24, .mv (.t 23), none⟩,
  ⟨some 25, .faddr 19 (.t 2), some (24, true)⟩,
  ⟨some 26, .load 1 false (.t 25), some (24, true)⟩,
  ⟨some 27, .faddr 19 (.t 3), some (24, true)⟩,
  ⟨some 28, .load 1 false (.t 27), some (24, true)⟩,
  ⟨some 29, .bin .eql (.t 26) (.t 28), some (24, true)⟩,
  ⟨some 30, .pick (.t 24) (.t 29) (.c (.bool false)), none⟩,
  ⟨some 31, .mv (.t 30), none⟩,
  ⟨some 32, .faddr 20 (.t 2), some (31, true)⟩,
  ⟨some 33, .load 1 false (.t 32), some (31, true)⟩,
  ⟨some 34, .faddr 20 (.t 3), some (31, true)⟩,
  ⟨some 35, .load 1 false (.t 34), some (31, true)⟩,
  ⟨some 36, .call 50 [(.t 33), (.t 35)], some (31, true)⟩,
  ⟨some 37, .pick (.t 31) (.t 36) (.c (.bool false)), none⟩,
  ⟨some 4, .mv (.t 37), none⟩]
def f15 : RFunc := ⟨[.t 4], (.seq (.region f15r0 [2, 3]) (.seq (.region f15r1 [4]) .ret)), true⟩

/-! quire/metric.Em -/
@[simp] def f21r0 : List ROper := [
  ⟨some 2, .mv (.c (.int .i64 (.ofNat 0))), none⟩]
@[simp] def f21r1 : List ROper := [
  ⟨some 4, .mv (.t 0), none⟩,
  ⟨some 5, .call 40 [(.c (.str [105, 106, 108, 39, 46, 44, 58, 59, 33, 124])), (.t 4)], none⟩,
  ⟨some 6, .bin .geq (.t 5) (.c (.int .i64 (.ofNat 0))), none⟩,
  ⟨some 3, .mv (.t 6), none⟩]
@[simp] def f21r2 : List ROper := [
  ⟨some 2, .mv (.c (.int .i64 (.ofNat 2))), none⟩]
@[simp] def f21r3 : List ROper := [
  ⟨some 8, .mv (.t 0), none⟩,
  ⟨some 9, .call 40 [(.c (.str [102, 116, 114, 40, 41, 91, 93, 123, 125, 45, 34, 94, 95, 126, 96, 73, 32])), (.t 8)], none⟩,
  ⟨some 10, .bin .geq (.t 9) (.c (.int .i64 (.ofNat 0))), none⟩,
  ⟨some 7, .mv (.t 10), none⟩]
@[simp] def f21r4 : List ROper := [
  ⟨some 2, .mv (.c (.int .i64 (.ofNat 3))), none⟩]
@[simp] def f21r5 : List ROper := [
  ⟨some 12, .mv (.t 0), none⟩,
  ⟨some 13, .bin .eql (.t 12) (.c (.int .u8 (.ofNat 109))), none⟩,
  ⟨some 14, .mv (.t 13), none⟩,
  ⟨some 15, .mv (.t 0), some (14, false)⟩,
  ⟨some 16, .bin .eql (.t 15) (.c (.int .u8 (.ofNat 119))), some (14, false)⟩,
  ⟨some 17, .pick (.t 14) (.c (.bool true)) (.t 16), none⟩,
  ⟨some 11, .mv (.t 17), none⟩]
@[simp] def f21r6 : List ROper := [
  ⟨some 2, .mv (.c (.int .i64 (.ofNat 7))), none⟩]
@[simp] def f21r7 : List ROper := [
  ⟨some 19, .mv (.t 0), none⟩,
  ⟨some 20, .bin .eql (.t 19) (.c (.int .u8 (.ofNat 77))), none⟩,
  ⟨some 21, .mv (.t 20), none⟩,
  ⟨some 22, .mv (.t 0), some (21, false)⟩,
  ⟨some 23, .bin .eql (.t 22) (.c (.int .u8 (.ofNat 87))), some (21, false)⟩,
  ⟨some 24, .pick (.t 21) (.c (.bool true)) (.t 23), none⟩,
  ⟨some 18, .mv (.t 24), none⟩]
@[simp] def f21r8 : List ROper := [
  ⟨some 2, .mv (.c (.int .i64 (.ofNat 8))), none⟩]
@[simp] def f21r9 : List ROper := [
  ⟨some 26, .mv (.t 0), none⟩,
  ⟨some 27, .bin .geq (.t 26) (.c (.int .u8 (.ofNat 65))), none⟩,
  ⟨some 28, .mv (.t 27), none⟩,
  ⟨some 29, .mv (.t 0), some (28, true)⟩,
  ⟨some 30, .bin .leq (.t 29) (.c (.int .u8 (.ofNat 90))), some (28, true)⟩,
  ⟨some 31, .pick (.t 28) (.t 30) (.c (.bool false)), none⟩,
  ⟨some 25, .mv (.t 31), none⟩]
@[simp] def f21r10 : List ROper := [
  ⟨some 2, .mv (.c (.int .i64 (.ofNat 6))), none⟩]
@[simp] def f21r11 : List ROper := [
  ⟨some 33, .mv (.t 0), none⟩,
  ⟨some 34, .bin .geq (.t 33) (.c (.int .u8 (.ofNat 97))), none⟩,
  ⟨some 35, .mv (.t 34), none⟩,
  ⟨some 36, .mv (.t 0), some (35, true)⟩,
  ⟨some 37, .bin .leq (.t 36) (.c (.int .u8 (.ofNat 122))), some (35, true)⟩,
  ⟨some 38, .pick (.t 35) (.t 37) (.c (.bool false)), none⟩,
  ⟨some 39, .mv (.t 38), none⟩,
  ⟨some 40, .mv (.t 0), some (39, false)⟩,
  ⟨some 41, .bin .geq (.t 40) (.c (.int .u8 (.ofNat 48))), some (39, false)⟩,
  ⟨some 42, .mv (.t 41), some (39, false)⟩,
  ⟨some 43, .mv (.t 0), some (42, true)⟩,
  ⟨some 44, .bin .leq (.t 43) (.c (.int .u8 (.ofNat 57))), some (42, true)⟩,
  ⟨some 45, .pick (.t 42) (.t 44) (.c (.bool false)), some (39, false)⟩,
  ⟨some 46, .pick (.t 39) (.c (.bool true)) (.t 45), none⟩,
  ⟨some 32, .mv (.t 46), none⟩]
@[simp] def f21r12 : List ROper := [
  ⟨some 2, .mv (.c (.int .i64 (.ofNat 5))), none⟩]
@[simp] def f21r13 : List ROper := [
  ⟨some 48, .mv (.t 0), none⟩,
  ⟨some 49, .bin .gtr (.t 48) (.c (.int .u8 (.ofNat 32))), none⟩,
  ⟨some 50, .mv (.t 49), none⟩,
  ⟨some 51, .mv (.t 0), some (50, true)⟩,
  ⟨some 52, .bin .leq (.t 51) (.c (.int .u8 (.ofNat 126))), some (50, true)⟩,
  ⟨some 53, .pick (.t 50) (.t 52) (.c (.bool false)), none⟩,
  ⟨some 47, .mv (.t 53), none⟩]
@[simp] def f21r14 : List ROper := [
  ⟨some 2, .mv (.c (.int .i64 (.ofNat 6))), none⟩]
@[simp] def f21r15 : List ROper := [
  ⟨some 2, .mv (.c (.int .i64 (.ofNat 0))), none⟩]
def f21 : RFunc := ⟨[.t 2], (.seq (.region f21r0 [0]) (.seq (.block 0 (.seq (.region f21r1 [0, 3]) (.cond (.t 3) (.seq (.region f21r2 [2]) .ret) (.seq (.region f21r3 [0, 7]) (.cond (.t 7) (.seq (.region f21r4 [2]) .ret) (.seq (.region f21r5 [0, 11]) (.cond (.t 11) (.seq (.region f21r6 [2]) .ret) (.seq (.region f21r7 [0, 18]) (.cond (.t 18) (.seq (.region f21r8 [2]) .ret) (.seq (.region f21r9 [0, 25]) (.cond (.t 25) (.seq (.region f21r10 [2]) .ret) (.seq (.region f21r11 [0, 32]) (.cond (.t 32) (.seq (.region f21r12 [2]) .ret) (.seq (.region f21r13 [47]) (.cond (.t 47) (.seq (.region f21r14 [2]) .ret) .skip))))))))))))))) (.seq (.region f21r15 [2]) .ret))), true⟩

/-! quire/quireref07.Em -/
@[simp] def f22r0 : List ROper := [
  ⟨some 2, .mv (.c (.int .i64 (.ofNat 0))), none⟩]
@[simp] def f22r1 : List ROper := [
  ⟨some 4, .mv (.t 0), none⟩,
  ⟨some 5, .call 52 [(.t 4), (.c (.str [105, 106, 108, 39, 46, 44, 58, 59, 33, 124]))], none⟩,
  ⟨some 3, .mv (.t 5), none⟩]
@[simp] def f22r2 : List ROper := [
  ⟨some 2, .mv (.c (.int .i64 (.ofNat 2))), none⟩]
@[simp] def f22r3 : List ROper := [
  ⟨some 7, .mv (.t 0), none⟩,
  ⟨some 8, .call 52 [(.t 7), (.c (.str [102, 116, 114, 40, 41, 91, 93, 123, 125, 45, 34, 94, 95, 126, 32, 73]))], none⟩,
  ⟨some 9, .mv (.t 8), none⟩,
  ⟨some 10, .mv (.t 0), some (9, false)⟩,
  ⟨some 11, .bin .eql (.t 10) (.c (.int .u8 (.ofNat 96))), some (9, false)⟩,
  ⟨some 12, .pick (.t 9) (.c (.bool true)) (.t 11), none⟩,
  ⟨some 6, .mv (.t 12), none⟩]
@[simp] def f22r4 : List ROper := [
  ⟨some 2, .mv (.c (.int .i64 (.ofNat 3))), none⟩]
@[simp] def f22r5 : List ROper := [
  ⟨some 14, .mv (.t 0), none⟩,
  ⟨some 15, .bin .eql (.t 14) (.c (.int .u8 (.ofNat 109))), none⟩,
  ⟨some 16, .mv (.t 15), none⟩,
  ⟨some 17, .mv (.t 0), some (16, false)⟩,
  ⟨some 18, .bin .eql (.t 17) (.c (.int .u8 (.ofNat 119))), some (16, false)⟩,
  ⟨some 19, .pick (.t 16) (.c (.bool true)) (.t 18), none⟩,
  ⟨some 13, .mv (.t 19), none⟩]
@[simp] def f22r6 : List ROper := [
  ⟨some 2, .mv (.c (.int .i64 (.ofNat 7))), none⟩]
@[simp] def f22r7 : List ROper := [
  ⟨some 21, .mv (.t 0), none⟩,
  ⟨some 22, .bin .eql (.t 21) (.c (.int .u8 (.ofNat 77))), none⟩,
  ⟨some 23, .mv (.t 22), none⟩,
  ⟨some 24, .mv (.t 0), some (23, false)⟩,
  ⟨some 25, .bin .eql (.t 24) (.c (.int .u8 (.ofNat 87))), some (23, false)⟩,
  ⟨some 26, .pick (.t 23) (.c (.bool true)) (.t 25), none⟩,
  ⟨some 20, .mv (.t 26), none⟩]
@[simp] def f22r8 : List ROper := [
  ⟨some 2, .mv (.c (.int .i64 (.ofNat 8))), none⟩]
@[simp] def f22r9 : List ROper := [
  ⟨some 28, .mv (.t 0), none⟩,
  ⟨some 29, .bin .geq (.t 28) (.c (.int .u8 (.ofNat 65))), none⟩,
  ⟨some 30, .mv (.t 29), none⟩,
  ⟨some 31, .mv (.t 0), some (30, true)⟩,
  ⟨some 32, .bin .leq (.t 31) (.c (.int .u8 (.ofNat 90))), some (30, true)⟩,
  ⟨some 33, .pick (.t 30) (.t 32) (.c (.bool false)), none⟩,
  ⟨some 27, .mv (.t 33), none⟩]
@[simp] def f22r10 : List ROper := [
  ⟨some 2, .mv (.c (.int .i64 (.ofNat 6))), none⟩]
@[simp] def f22r11 : List ROper := [
  ⟨some 35, .mv (.t 0), none⟩,
  ⟨some 36, .bin .geq (.t 35) (.c (.int .u8 (.ofNat 97))), none⟩,
  ⟨some 37, .mv (.t 36), none⟩,
  ⟨some 38, .mv (.t 0), some (37, true)⟩,
  ⟨some 39, .bin .leq (.t 38) (.c (.int .u8 (.ofNat 122))), some (37, true)⟩,
  ⟨some 40, .pick (.t 37) (.t 39) (.c (.bool false)), none⟩,
  ⟨some 41, .mv (.t 40), none⟩,
  ⟨some 42, .mv (.t 0), some (41, false)⟩,
  ⟨some 43, .bin .geq (.t 42) (.c (.int .u8 (.ofNat 48))), some (41, false)⟩,
  ⟨some 44, .mv (.t 43), some (41, false)⟩,
  ⟨some 45, .mv (.t 0), some (44, true)⟩,
  ⟨some 46, .bin .leq (.t 45) (.c (.int .u8 (.ofNat 57))), some (44, true)⟩,
  ⟨some 47, .pick (.t 44) (.t 46) (.c (.bool false)), some (41, false)⟩,
  ⟨some 48, .pick (.t 41) (.c (.bool true)) (.t 47), none⟩,
  ⟨some 34, .mv (.t 48), none⟩]
@[simp] def f22r12 : List ROper := [
  ⟨some 2, .mv (.c (.int .i64 (.ofNat 5))), none⟩]
@[simp] def f22r13 : List ROper := [
  ⟨some 50, .mv (.t 0), none⟩,
  ⟨some 51, .bin .gtr (.t 50) (.c (.int .u8 (.ofNat 32))), none⟩,
  ⟨some 52, .mv (.t 51), none⟩,
  ⟨some 53, .mv (.t 0), some (52, true)⟩,
  ⟨some 54, .bin .lss (.t 53) (.c (.int .u8 (.ofNat 127))), some (52, true)⟩,
  ⟨some 55, .pick (.t 52) (.t 54) (.c (.bool false)), none⟩,
  ⟨some 49, .mv (.t 55), none⟩]
@[simp] def f22r14 : List ROper := [
  ⟨some 2, .mv (.c (.int .i64 (.ofNat 6))), none⟩]
@[simp] def f22r15 : List ROper := [
  ⟨some 2, .mv (.c (.int .i64 (.ofNat 0))), none⟩]
def f22 : RFunc := ⟨[.t 2], (.seq (.region f22r0 [0]) (.seq (.block 0 (.seq (.region f22r1 [0, 3]) (.cond (.t 3) (.seq (.region f22r2 [2]) .ret) (.seq (.region f22r3 [0, 6]) (.cond (.t 6) (.seq (.region f22r4 [2]) .ret) (.seq (.region f22r5 [0, 13]) (.cond (.t 13) (.seq (.region f22r6 [2]) .ret) (.seq (.region f22r7 [0, 20]) (.cond (.t 20) (.seq (.region f22r8 [2]) .ret) (.seq (.region f22r9 [0, 27]) (.cond (.t 27) (.seq (.region f22r10 [2]) .ret) (.seq (.region f22r11 [0, 34]) (.cond (.t 34) (.seq (.region f22r12 [2]) .ret) (.seq (.region f22r13 [49]) (.cond (.t 49) (.seq (.region f22r14 [2]) .ret) .skip))))))))))))))) (.seq (.region f22r15 [2]) .ret))), true⟩

/-! quire/metric.Natural -/
@[simp] def f23r0 : List ROper := [
  ⟨some 6, .mv (.c (.int .i64 (.ofNat 0))), none⟩,
  ⟨some 7, .mv (.c (.int .i64 (.ofNat 0))), none⟩]
@[simp] def f23r1 : List ROper := [
  ⟨some 13, .mv (.t 0), none⟩,
  ⟨some 14, .len .slice (.t 13), none⟩,
  ⟨some 15, .bin .gtr (.t 14) (.c (.int .i64 (.ofNat 4096))), none⟩]
@[simp] def f23r2 : List ROper := [
  ⟨some 6, .mv (.c (.int .i64 (.ofNat 0))), none⟩,
  ⟨some 7, .mv (.c (.int .i64 (.ofNat 3))), none⟩]
@[simp] def f23r3 : List ROper := [
  ⟨some 16, .mv (.t 0), none⟩,
  ⟨some 17, .len .slice (.t 16), none⟩,
  ⟨some 18, .mv (.c (.int .i64 (.ofNat 0))), none⟩]
@[simp] def f23r4 : List ROper := [
  ⟨some 19, .bin .lss (.t 18) (.t 17), none⟩]
@[simp] def f23r5 : List ROper := [
  ⟨some 20, .iaddr 6 (.t 16) (.t 18), none⟩,
  ⟨some 21, .load 6 true (.t 20), none⟩,
  ⟨some 9, .alloc [(.int .i64 (.ofNat 0)), (.int .i64 (.ofNat 0)), (.int .i64 (.ofNat 0)), (.int .i64 (.ofNat 0)), (.int .i64 (.ofNat 0)), (.int .i64 (.ofNat 0))], none⟩,
  ⟨none, .store 6 (.t 9) (.t 21), none⟩]
@[simp] def f23r6 : List ROper := [
  ⟨some 22, .faddr 4 (.t 9), none⟩,
  ⟨some 23, .load 1 false (.t 22), none⟩,
  ⟨some 24, .bin .lss (.t 23) (.c (.int .i64 (.ofNat 0))), none⟩,
  ⟨some 25, .mv (.t 24), none⟩,
  ⟨some 26, .faddr 4 (.t 9), some (25, false)⟩,
  ⟨some 27, .load 1 false (.t 26), some (25, false)⟩,
  ⟨some 28, .bin .gtr (.t 27) (.c (.int .i64 (.ofNat 4095))), some (25, false)⟩,
  ⟨some 29, .pick (.t 25) (.c (.bool true)) (.t 28), none⟩,
  ⟨some 30, .mv (.t 29), none⟩,
  ⟨some 31, .faddr 5 (.t 9), some (30, false)⟩,
  ⟨some 32, .load 1 false (.t 31), some (30, false)⟩,
  ⟨some 33, .bin .lss (.t 32) (.c (.int .i64 (.negSucc 63))), some (30, false)⟩,
  ⟨some 34, .pick (.t 30) (.c (.bool true)) (.t 33), none⟩,
  ⟨some 35, .mv (.t 34), none⟩,
  ⟨some 36, .faddr 5 (.t 9), some (35, false)⟩,
  ⟨some 37, .load 1 false (.t 36), some (35, false)⟩,
  ⟨some 38, .bin .gtr (.t 37) (.c (.int .i64 (.ofNat 0))), some (35, false)⟩,
  ⟨some 39, .pick (.t 35) (.c (.bool true)) (.t 38), none⟩]
@[simp] def f23r7 : List ROper := [
  ⟨some 6, .mv (.c (.int .i64 (.ofNat 0))), none⟩,
  ⟨some 7, .mv (.c (.int .i64 (.ofNat 2))), none⟩]
@[simp] def f23r8 : List ROper := [
  ⟨some 40, .bin .add (.t 18) (.c (.int .i64 (.ofNat 1))), none⟩,
  ⟨some 18, .mv (.t 40), none⟩]
def f23B0 : RC := (.seq (.region f23r4 [0, 1, 2, 16, 17, 18, 19]) (.seq (.cond (.t 19) .skip (.exit 0)) (.seq (.block 1 (.seq (.region f23r5 [0, 1, 2, 9, 16, 17, 18]) (.seq (.region f23r6 [0, 1, 2, 16, 17, 18, 39]) (.cond (.t 39) (.seq (.region f23r7 [6, 7]) .ret) .skip)))) (.region f23r8 [0, 1, 2, 16, 17, 18]))))
def f23L0 : RC := .loop [0, 1, 2, 16, 17, 18] f23B0
@[simp] def f23r9 : List ROper := [
  ⟨some 41, .mv (.t 1), none⟩,
  ⟨some 42, .bin .lss (.t 41) (.c (.int .i64 (.ofNat 0))), none⟩,
  ⟨some 43, .mv (.t 42), none⟩,
  ⟨some 44, .mv (.t 2), some (43, false)⟩,
  ⟨some 45, .mv (.t 1), some (43, false)⟩,
  ⟨some 46, .bin .lss (.t 44) (.t 45), some (43, false)⟩,
  ⟨some 47, .pick (.t 43) (.c (.bool true)) (.t 46), none⟩,
  ⟨some 48, .mv (.t 47), none⟩,
  ⟨some 49, .mv (.t 2), some (48, false)⟩,
  ⟨some 50, .mv (.t 0), some (48, false)⟩,
  ⟨some 51, .len .slice (.t 50), some (48, false)⟩,
  ⟨some 52, .bin .gtr (.t 49) (.t 51), some (48, false)⟩,
  ⟨some 53, .pick (.t 48) (.c (.bool true)) (.t 52), none⟩]
@[simp] def f23r10 : List ROper := [
  ⟨some 6, .mv (.c (.int .i64 (.ofNat 0))), none⟩,
  ⟨some 7, .mv (.c (.int .i64 (.ofNat 5))), none⟩]
@[simp] def f23r11 : List ROper := [
  ⟨some 10, .mv (.c (.int .i64 (.ofNat 0))), none⟩]
@[simp] def f23r12 : List ROper := [
  ⟨some 54, .mv (.t 0), none⟩,
  ⟨some 55, .mv (.t 1), none⟩,
  ⟨some 56, .mv (.t 2), none⟩,
  ⟨some 57, .slice false 6 (.t 54) (some (.t 55)) (some (.t 56)) none, none⟩,
  ⟨some 58, .len .slice (.t 57), none⟩,
  ⟨some 59, .mv (.c (.int .i64 (.ofNat 0))), none⟩]
@[simp] def f23r13 : List ROper := [
  ⟨some 60, .bin .lss (.t 59) (.t 58), none⟩]
@[simp] def f23r14 : List ROper := [
  ⟨some 61, .mv (.t 59), none⟩,
  ⟨some 62, .iaddr 6 (.t 57) (.t 59), none⟩,
  ⟨some 63, .load 6 true (.t 62), none⟩,
  ⟨some 12, .alloc [(.int .i64 (.ofNat 0)), (.int .i64 (.ofNat 0)), (.int .i64 (.ofNat 0)), (.int .i64 (.ofNat 0)), (.int .i64 (.ofNat 0)), (.int .i64 (.ofNat 0))], none⟩,
  ⟨some 11, .mv (.t 61), none⟩,
  ⟨none, .store 6 (.t 12) (.t 63), none⟩]
@[simp] def f23r15 : List ROper := [
  ⟨some 64, .mv (.t 10), none⟩,
  ⟨some 65, .faddr 4 (.t 12), none⟩,
  ⟨some 66, .load 1 false (.t 65), none⟩,
  ⟨some 67, .bin .add (.t 64) (.t 66), none⟩,
  ⟨some 10, .mv (.t 67), none⟩]
@[simp] def f23r16 : List ROper := [
  ⟨some 68, .mv (.t 11), none⟩,
  ⟨some 69, .bin .gtr (.t 68) (.c (.int .i64 (.ofNat 0))), none⟩]
@[simp] def f23r17 : List ROper := [
  ⟨some 70, .mv (.t 10), none⟩,
  ⟨some 71, .faddr 5 (.t 12), none⟩,
  ⟨some 72, .load 1 false (.t 71), none⟩,
  ⟨some 73, .bin .add (.t 70) (.t 72), none⟩,
  ⟨some 10, .mv (.t 73), none⟩]
@[simp] def f23r18 : List ROper := [
  ⟨some 74, .bin .add (.t 59) (.c (.int .i64 (.ofNat 1))), none⟩,
  ⟨some 59, .mv (.t 74), none⟩]
def f23B1 : RC := (.seq (.region f23r13 [10, 57, 58, 59, 60]) (.seq (.cond (.t 60) .skip (.exit 2)) (.seq (.block 3 (.seq (.region f23r14 [10, 11, 12, 57, 58, 59]) (.seq (.region f23r15 [10, 11, 12, 57, 58, 59]) (.seq (.region f23r16 [10, 12, 57, 58, 59, 69]) (.cond (.t 69) (.region f23r17 [10, 57, 58, 59]) .skip))))) (.region f23r18 [10, 57, 58, 59]))))
def f23L1 : RC := .loop [10, 57, 58, 59] f23B1
@[simp] def f23r19 : List ROper := [
  ⟨some 75, .mv (.t 10), none⟩,
  ⟨some 6, .mv (.t 75), none⟩,
  ⟨some 7, .mv (.c (.int .i64 (.ofNat 0))), none⟩]
def f23 : RFunc := ⟨[.t 6, .t 7], (.seq (.region f23r0 [0, 1, 2]) (.seq (.seq (.region f23r1 [0, 1, 2, 15]) (.cond (.t 15) (.seq (.region f23r2 [6, 7]) .ret) .skip)) (.seq (.seq (.region f23r3 [0, 1, 2, 16, 17, 18]) (.block 0 f23L0)) (.seq (.seq (.region f23r9 [0, 1, 2, 53]) (.cond (.t 53) (.seq (.region f23r10 [6, 7]) .ret) .skip)) (.seq (.region f23r11 [0, 1, 2, 10]) (.seq (.seq (.region f23r12 [10, 57, 58, 59]) (.block 2 f23L1)) (.seq (.region f23r19 [6, 7]) .ret))))))), true⟩

/-! quire/cluster.Split -/
@[simp] def f27r0 : List ROper := [
  ⟨some 2, .mv (.c (.list 0 0 .no false [])), none⟩,
  ⟨some 3, .mv (.c (.int .i64 (.ofNat 0))), none⟩]
@[simp] def f27r1 : List ROper := [
  ⟨some 7, .mv (.t 0), none⟩,
  ⟨some 8, .call 54 [(.t 7)], none⟩,
  ⟨some 4, .mv (.t 8), none⟩]
@[simp] def f27r2 : List ROper := [
  ⟨some 9, .mv (.t 4), none⟩,
  ⟨some 10, .bin .neq (.t 9) (.c (.int .i64 (.ofNat 0))), none⟩]
@[simp] def f27r3 : List ROper := [
  ⟨some 11, .mv (.t 4), none⟩,
  ⟨some 2, .mv (.c (.list 0 0 .no false [])), none⟩,
  ⟨some 3, .mv (.t 11), none⟩]
@[simp] def f27r4 : List ROper := [
  ⟨some 5, .alloc [(.list 0 0 .no false [])], none⟩]
@[simp] def f27r5 : List ROper := [
  ⟨some 12, .mv (.t 0), none⟩,
  ⟨some 13, .call 55 [(.t 12)], none⟩]
@[simp] def f27r6 : List ROper := [
  ⟨some 6, .alloc [(.int .i64 (.ofNat 0)), (.int .i64 (.ofNat 0)), (.int .i64 (.ofNat 0))], none⟩,
  ⟨none, .store 3 (.t 6) (.t 14), none⟩]
@[simp] def f27r7 : List ROper := [
  ⟨some 15, .load 1 false (.t 5), none⟩,
  ⟨some 16, .load 3 true (.t 6), none⟩,
  ⟨some 17, .lit 3 true [(.int .i64 (.ofNat 0)), (.int .i64 (.ofNat 0)), (.int .i64 (.ofNat 0))] 1 [(0, (.t 16))], none⟩,
  ⟨some 18, .append 3 true 24 (.t 15) (.t 17), none⟩,
  ⟨none, .store 1 (.t 5) (.t 18), none⟩]
@[simp] def f27r8 : List ROper := [
  ⟨some 19, .load 1 false (.t 5), none⟩,
  ⟨some 2, .mv (.t 19), none⟩,
  ⟨some 3, .mv (.c (.int .i64 (.ofNat 0))), none⟩]
def f27 : RFunc := ⟨[.t 2, .t 3], (.seq (.region f27r0 [0]) (.seq (.seq (.region f27r1 [0, 4]) (.seq (.region f27r2 [0, 4, 10]) (.cond (.t 10) (.seq (.region f27r3 [2, 3]) .ret) .skip))) (.seq (.region f27r4 [0, 5]) (.seq (.seq (.region f27r5 [5, 13]) (.block 0 (.rfunc (.t 13) [14] (.region f27r6 [5, 6]) (.block 1 (.region f27r7 [])) [5, 13]))) (.seq (.region f27r8 [2, 3]) .ret))))), true⟩

/-! quire/metric.looks -/
@[simp] def f29r0 : List ROper := [
  ⟨some 1, .box 1 (.t 0), none⟩,
  ⟨some 2, .mv (.c .nilfn), none⟩]
@[simp] def f29r1 : List ROper := [
  ⟨some 3, .alloc [(.int .i64 (.ofNat 0))], none⟩,
  ⟨none, .store 1 (.t 3) (.c (.int .i64 (.ofNat 0))), none⟩]
@[simp] def f29r2 : List ROper := [
  ⟨some 4, .load 1 false (.t 1), none⟩,
  ⟨some 5, .len .slice (.t 4), none⟩,
  ⟨some 6, .bin .gtr (.t 5) (.c (.int .i64 (.ofNat 0))), none⟩]
@[simp] def f29r3 : List ROper := [
  ⟨some 7, .load 1 false (.t 1), none⟩,
  ⟨some 8, .iaddr 4 (.t 7) (.c (.int .i64 (.ofNat 0))), none⟩,
  ⟨some 9, .faddr 0 (.t 8), none⟩,
  ⟨some 10, .load 1 false (.t 9), none⟩,
  ⟨none, .store 1 (.t 3) (.t 10), none⟩]
@[simp] def f29r4 : List ROper := [
  ⟨some 11, .mkfn 56 [] [(.t 1), (.t 3)], none⟩,
  ⟨some 2, .mv (.t 11), none⟩]
def f29 : RFunc := ⟨[.t 2], (.seq (.region f29r0 [1]) (.seq (.region f29r1 [1, 3]) (.seq (.seq (.region f29r2 [1, 3, 6]) (.cond (.t 6) (.region f29r3 [1, 3]) .skip)) (.seq (.region f29r4 [2]) .ret)))), false⟩

/-! quire/metric.wide -/
@[simp] def f30r0 : List ROper := [
  ⟨some 4, .mv (.c (.int .i64 (.ofNat 0))), none⟩]
@[simp] def f30r1 : List ROper := [
  ⟨some 5, .mv (.t 0), none⟩,
  ⟨some 6, .call 21 [(.t 5)], none⟩,
  ⟨some 7, .mv (.t 1), none⟩,
  ⟨some 8, .bin .mul (.t 6) (.t 7), none⟩,
  ⟨some 9, .bin .quo (.t 8) (.c (.int .i64 (.ofNat 8))), none⟩,
  ⟨some 4, .mv (.t 9), none⟩]
def f30 : RFunc := ⟨[.t 4], (.seq (.region f30r0 [0, 1]) (.seq (.region f30r1 [4]) .ret)), true⟩

/-! quire/metric.text -/
@[simp] def f31r0 : List ROper := [
  ⟨some 4, .mv (.c (.int .i64 (.ofNat 0))), none⟩]
@[simp] def f31r1 : List ROper := [
  ⟨some 5, .mv (.c (.int .i64 (.ofNat 0))), none⟩]
@[simp] def f31r2 : List ROper := [
  ⟨some 8, .mv (.t 0), none⟩,
  ⟨some 9, .s2b (.t 8), none⟩,
  ⟨some 10, .len .slice (.t 9), none⟩,
  ⟨some 11, .mv (.c (.int .i64 (.ofNat 0))), none⟩]
@[simp] def f31r3 : List ROper := [
  ⟨some 12, .bin .lss (.t 11) (.t 10), none⟩]
@[simp] def f31r4 : List ROper := [
  ⟨some 13, .iaddr 1 (.t 9) (.t 11), none⟩,
  ⟨some 14, .load 1 false (.t 13), none⟩,
  ⟨some 7, .mv (.t 14), none⟩]
@[simp] def f31r5 : List ROper := [
  ⟨some 15, .mv (.t 5), none⟩,
  ⟨some 16, .mv (.t 7), none⟩,
  ⟨some 17, .mv (.t 1), none⟩,
  ⟨some 18, .call 30 [(.t 16), (.t 17)], none⟩,
  ⟨some 19, .bin .add (.t 15) (.t 18), none⟩,
  ⟨some 5, .mv (.t 19), none⟩]
@[simp] def f31r6 : List ROper := [
  ⟨some 20, .bin .add (.t 11) (.c (.int .i64 (.ofNat 1))), none⟩,
  ⟨some 11, .mv (.t 20), none⟩]
def f31B0 : RC := (.seq (.region f31r3 [1, 5, 9, 10, 11, 12]) (.seq (.cond (.t 12) .skip (.exit 0)) (.seq (.block 1 (.seq (.region f31r4 [1, 5, 7, 9, 10, 11]) (.region f31r5 [1, 5, 9, 10, 11]))) (.region f31r6 [1, 5, 9, 10, 11]))))
def f31L0 : RC := .loop [1, 5, 9, 10, 11] f31B0
@[simp] def f31r7 : List ROper := [
  ⟨some 21, .mv (.t 5), none⟩,
  ⟨some 4, .mv (.t 21), none⟩]
def f31 : RFunc := ⟨[.t 4], (.seq (.region f31r0 [0, 1]) (.seq (.region f31r1 [0, 1, 5]) (.seq (.seq (.region f31r2 [1, 5, 9, 10, 11]) (.block 0 f31L0)) (.seq (.region f31r7 [4]) .ret)))), true⟩

/-! quire/metric.nearer -/
@[simp] def f32r0 : List ROper := [
  ⟨some 6, .mv (.c (.int .i64 (.ofNat 0))), none⟩]
@[simp] def f32r1 : List ROper := [
  ⟨some 7, .mv (.c (.int .i64 (.ofNat 0))), none⟩]
@[simp] def f32r2 : List ROper := [
  ⟨some 8, .mv (.t 0), none⟩,
  ⟨some 9, .mv (.t 1), none⟩,
  ⟨some 10, .call 57 [(.c (.str [65, 84, 32, 65, 86, 32, 65, 87, 32, 65, 89, 32, 84, 65, 32, 86, 65, 32, 87, 65, 32, 89, 65, 32, 76, 84, 32, 76, 86, 32, 76, 89, 32, 80, 65, 32, 84, 111, 32, 84, 97, 32, 84, 101, 32, 86, 111, 32, 86, 97, 32, 89, 111, 32, 89, 97, 32])), (.t 8), (.t 9)], none⟩]
@[simp] def f32r3 : List ROper := [
  ⟨some 7, .mv (.c (.int .i64 (.ofNat 2))), none⟩]
@[simp] def f32r4 : List ROper := [
  ⟨some 11, .mv (.t 0), none⟩,
  ⟨some 12, .mv (.t 1), none⟩,
  ⟨some 13, .call 57 [(.c (.str [114, 46, 32, 114, 44, 32, 102, 46, 32, 102, 44, 32, 118, 46, 32, 121, 46, 32, 65, 118, 32, 65, 121, 32, 111, 118, 32, 118, 111, 32])), (.t 11), (.t 12)], none⟩]
@[simp] def f32r5 : List ROper := [
  ⟨some 7, .mv (.c (.int .i64 (.ofNat 1))), none⟩]
@[simp] def f32r6 : List ROper := [
  ⟨some 14, .mv (.t 7), none⟩,
  ⟨some 15, .mv (.t 2), none⟩,
  ⟨some 16, .bin .mul (.t 14) (.t 15), none⟩,
  ⟨some 17, .bin .quo (.t 16) (.c (.int .i64 (.ofNat 16))), none⟩,
  ⟨some 18, .un .neg (.t 17), none⟩,
  ⟨some 6, .mv (.t 18), none⟩]
def f32 : RFunc := ⟨[.t 6], (.seq (.region f32r0 [0, 1, 2]) (.seq (.region f32r1 [0, 1, 2, 7]) (.seq (.seq (.region f32r2 [0, 1, 2, 7, 10]) (.cond (.t 10) (.region f32r3 [0, 1, 2, 7]) .skip)) (.seq (.seq (.region f32r4 [2, 7, 13]) (.cond (.t 13) (.region f32r5 [2, 7]) .skip)) (.seq (.region f32r6 [6]) .ret))))), true⟩

/-! quire/quireref06.Split -/
@[simp] def f33r0 : List ROper := [
  ⟨some 2, .mv (.c (.list 0 0 .no false [])), none⟩,
  ⟨some 3, .mv (.c (.int .i64 (.ofNat 0))), none⟩]
@[simp] def f33r1 : List ROper := [
  ⟨some 8, .mv (.t 0), none⟩,
  ⟨some 9, .call 45 [(.t 8)], none⟩,
  ⟨some 4, .mv (.t 9), none⟩]
@[simp] def f33r2 : List ROper := [
  ⟨some 10, .mv (.t 4), none⟩,
  ⟨some 11, .bin .neq (.t 10) (.c (.int .i64 (.ofNat 0))), none⟩]
@[simp] def f33r3 : List ROper := [
  ⟨some 12, .mv (.t 4), none⟩,
  ⟨some 2, .mv (.c (.list 0 0 .no false [])), none⟩,
  ⟨some 3, .mv (.t 12), none⟩]
@[simp] def f33r4 : List ROper := [
  ⟨some 5, .mv (.c (.list 0 0 .no false [])), none⟩]
@[simp] def f33r5 : List ROper := [
  ⟨some 6, .mv (.c (.int .i64 (.ofNat 0))), none⟩]
@[simp] def f33r6 : List ROper := [
  ⟨some 13, .mv (.t 6), none⟩,
  ⟨some 14, .mv (.t 0), none⟩,
  ⟨some 15, .len .str (.t 14), none⟩,
  ⟨some 16, .bin .lss (.t 13) (.t 15), none⟩]
@[simp] def f33r7 : List ROper := [
  ⟨some 17, .mv (.t 6), none⟩,
  ⟨some 18, .mv (.t 6), none⟩,
  ⟨some 19, .bin .add (.t 18) (.c (.int .i64 (.ofNat 1))), none⟩,
  ⟨some 20, .mv (.t 0), none⟩,
  ⟨some 21, .mv (.t 6), none⟩,
  ⟨some 22, .index (.t 20) (.t 21), none⟩,
  ⟨some 23, .call 58 [(.t 22)], none⟩,
  ⟨some 24, .build [(.int .i64 (.ofNat 0)), (.int .i64 (.ofNat 0)), (.int .i64 (.ofNat 0))] [(0, 1, (.t 17)), (1, 1, (.t 19)), (2, 1, (.t 23))], none⟩,
  ⟨some 7, .alloc [(.int .i64 (.ofNat 0)), (.int .i64 (.ofNat 0)), (.int .i64 (.ofNat 0))], none⟩,
  ⟨none, .store 3 (.t 7) (.t 24), none⟩]
@[simp] def f33r8 : List ROper := [
  ⟨some 25, .faddr 2 (.t 7), none⟩,
  ⟨some 26, .load 1 false (.t 25), none⟩,
  ⟨some 27, .bin .eql (.t 26) (.c (.int .i64 (.ofNat 1))), none⟩,
  ⟨some 28, .mv (.t 27), none⟩,
  ⟨some 29, .faddr 1 (.t 7), some (28, true)⟩,
  ⟨some 30, .load 1 false (.t 29), some (28, true)⟩,
  ⟨some 31, .mv (.t 0), some (28, true)⟩,
  ⟨some 32, .len .str (.t 31), some (28, true)⟩,
  ⟨some 33, .bin .lss (.t 30) (.t 32), some (28, true)⟩,
  ⟨some 34, .pick (.t 28) (.t 33) (.c (.bool false)), none⟩,
  ⟨some 35, .mv (.t 34), none⟩,
  ⟨some 36, .faddr 1 (.t 7), some (35, true)⟩,
  ⟨some 37, .load 1 false (.t 36), some (35, true)⟩,
  ⟨some 38, .mv (.t 6), some (35, true)⟩,
  ⟨some 39, .bin .add (.t 38) (.c (.int .i64 (.ofNat 3))), some (35, true)⟩,
  ⟨some 40, .bin .lss (.t 37) (.t 39), some (35, true)⟩,
  ⟨some 41, .pick (.t 35) (.t 40) (.c (.bool false)), none⟩,
  ⟨some 42, .mv (.t 41), none⟩,
  ⟨some 43, .mv (.t 0), some (42, true)⟩,
  ⟨some 44, .faddr 1 (.t 7), some (42, true)⟩,
  ⟨some 45, .load 1 false (.t 44), some (42, true)⟩,
  ⟨some 46, .index (.t 43) (.t 45), some (42, true)⟩,
  ⟨some 47, .call 59 [(.t 46)], some (42, true)⟩,
  ⟨some 48, .pick (.t 42) (.t 47) (.c (.bool false)), none⟩]
@[simp] def f33r9 : List ROper := [
  ⟨some 49, .faddr 1 (.t 7), none⟩,
  ⟨some 50, .load 1 false (.t 49), none⟩,
  ⟨some 51, .bin .add (.t 50) (.c (.int .i64 (.ofNat 1))), none⟩,
  ⟨some 52, .faddr 1 (.t 7), none⟩,
  ⟨none, .store 1 (.t 52) (.t 51), none⟩]
def f33B0 : RC := (.seq (.seq (.region f33r8 [0, 5, 6, 7, 48]) (.cond (.t 48) .skip (.exit 2))) (.block 3 (.region f33r9 [0, 5, 6, 7])))
def f33L0 : RC := .loop [0, 5, 6, 7] f33B0
@[simp] def f33r10 : List ROper := [
  ⟨some 53, .mv (.t 5), none⟩,
  ⟨some 54, .load 3 true (.t 7), none⟩,
  ⟨some 55, .lit 3 true [(.int .i64 (.ofNat 0)), (.int .i64 (.ofNat 0)), (.int .i64 (.ofNat 0))] 1 [(0, (.t 54))], none⟩,
  ⟨some 56, .append 3 true 24 (.t 53) (.t 55), none⟩,
  ⟨some 5, .mv (.t 56), none⟩]
@[simp] def f33r11 : List ROper := [
  ⟨some 57, .faddr 1 (.t 7), none⟩,
  ⟨some 58, .load 1 false (.t 57), none⟩,
  ⟨some 6, .mv (.t 58), none⟩]
def f33B1 : RC := (.seq (.seq (.region f33r6 [0, 5, 6, 16]) (.cond (.t 16) .skip (.exit 0))) (.block 1 (.seq (.region f33r7 [0, 5, 6, 7]) (.seq (.block 2 f33L0) (.seq (.region f33r10 [0, 5, 7]) (.region f33r11 [0, 5, 6]))))))
def f33L1 : RC := .loop [0, 5, 6] f33B1
@[simp] def f33r12 : List ROper := [
  ⟨some 59, .mv (.t 5), none⟩,
  ⟨some 2, .mv (.t 59), none⟩,
  ⟨some 3, .mv (.c (.int .i64 (.ofNat 0))), none⟩]
def f33 : RFunc := ⟨[.t 2, .t 3], (.seq (.region f33r0 [0]) (.seq (.region f33r1 [0, 4]) (.seq (.seq (.region f33r2 [0, 4, 11]) (.cond (.t 11) (.seq (.region f33r3 [2, 3]) .ret) .skip)) (.seq (.region f33r4 [0, 5]) (.seq (.region f33r5 [0, 5, 6]) (.seq (.block 0 f33L1) (.seq (.region f33r12 [2, 3]) .ret))))))), true⟩

/-! quire/quireref07.Size -/
@[simp] def f34r0 : List ROper := [
  ⟨some 2, .box 21 (.t 0), none⟩,
  ⟨some 4, .mv (.c (.int .i64 (.ofNat 0))), none⟩]
@[simp] def f34r1 : List ROper := [
  ⟨some 6, .load 21 true (.t 2), none⟩,
  ⟨some 7, .mv (.t 1), none⟩,
  ⟨some 8, .call 35 [(.t 6), (.t 7)], none⟩,
  ⟨some 9, .field 1 false 0 (.t 8), none⟩,
  ⟨some 5, .mv (.t 9), none⟩]
@[simp] def f34r2 : List ROper := [
  ⟨some 10, .mv (.t 5), none⟩,
  ⟨some 11, .bin .eql (.t 10) (.c (.int .i64 (.ofNat 0))), none⟩]
@[simp] def f34r3 : List ROper := [
  ⟨some 12, .faddr 2 (.t 2), none⟩,
  ⟨some 13, .faddr 0 (.t 12), none⟩,
  ⟨some 14, .load 1 false (.t 13), none⟩,
  ⟨some 4, .mv (.t 14), none⟩]
@[simp] def f34r4 : List ROper := [
  ⟨some 15, .mv (.t 5), none⟩,
  ⟨some 4, .mv (.t 15), none⟩]
def f34 : RFunc := ⟨[.t 4], (.seq (.region f34r0 [1, 2]) (.seq (.region f34r1 [2, 5]) (.seq (.seq (.region f34r2 [2, 5, 11]) (.cond (.t 11) (.seq (.region f34r3 [4]) .ret) .skip)) (.seq (.region f34r4 [4]) .ret)))), true⟩

/-! quire/quireref07.Look -/
@[simp] def f35r0 : List ROper := [
  ⟨some 2, .box 21 (.t 0), none⟩,
  ⟨some 4, .alloc [(.int .i64 (.ofNat 0)), (.int .i64 (.ofNat 0)), (.int .i64 (.ofNat 0))], none⟩]
@[simp] def f35r1 : List ROper := [
  ⟨some 5, .mv (.c (.int .i64 (.ofNat 0))), none⟩]
@[simp] def f35r2 : List ROper := [
  ⟨some 6, .mv (.c (.int .i64 (.ofNat 0))), none⟩]
@[simp] def f35r3 : List ROper := [
  ⟨some 7, .mv (.t 6), none⟩,
  ⟨some 8, .faddr 1 (.t 2), none⟩,
  ⟨some 9, .load 1 false (.t 8), none⟩,
  ⟨some 10, .len .slice (.t 9), none⟩,
  ⟨some 11, .bin .lss (.t 7) (.t 10), none⟩]
@[simp] def f35r4 : List ROper := [
  ⟨some 14, .mv (.t 5), none⟩,
  ⟨some 15, .faddr 1 (.t 2), none⟩,
  ⟨some 16, .load 1 false (.t 15), none⟩,
  ⟨some 17, .mv (.t 6), none⟩,
  ⟨some 18, .iaddr 4 (.t 16) (.t 17), none⟩,
  ⟨some 19, .faddr 0 (.t 18), none⟩,
  ⟨some 20, .load 1 false (.t 19), none⟩,
  ⟨some 21, .bin .add (.t 14) (.t 20), none⟩,
  ⟨some 5, .mv (.t 21), none⟩]
@[simp] def f35r5 : List ROper := [
  ⟨some 22, .mv (.t 1), none⟩,
  ⟨some 23, .mv (.t 5), none⟩,
  ⟨some 24, .bin .lss (.t 22) (.t 23), none⟩]
@[simp] def f35r6 : List ROper := [
  ⟨some 25, .faddr 1 (.t 2), none⟩,
  ⟨some 26, .load 1 false (.t 25), none⟩,
  ⟨some 27, .mv (.t 6), none⟩,
  ⟨some 28, .iaddr 4 (.t 26) (.t 27), none⟩,
  ⟨some 29, .faddr 1 (.t 28), none⟩,
  ⟨some 30, .load 3 true (.t 29), none⟩,
  ⟨none, .store 3 (.t 4) (.t 30), none⟩]
@[simp] def f35r7 : List ROper := [
  ⟨some 12, .mv (.t 6), none⟩,
  ⟨some 13, .bin .add (.t 12) (.c (.int .i64 (.ofNat 1))), none⟩,
  ⟨some 6, .mv (.t 13), none⟩]
def f35B0 : RC := (.seq (.seq (.region f35r3 [1, 2, 4, 5, 6, 11]) (.cond (.t 11) .skip (.exit 0))) (.seq (.block 1 (.seq (.region f35r4 [1, 2, 4, 5, 6]) (.seq (.region f35r5 [1, 2, 4, 5, 6, 24]) (.cond (.t 24) (.seq (.region f35r6 [4]) .ret) .skip)))) (.region f35r7 [1, 2, 4, 5, 6])))
def f35L0 : RC := .loop [1, 2, 4, 5, 6] f35B0
@[simp] def f35r8 : List ROper := [
  ⟨some 31, .build [(.int .i64 (.ofNat 0)), (.int .i64 (.ofNat 0)), (.int .i64 (.ofNat 0))] [], none⟩,
  ⟨none, .store 3 (.t 4) (.t 31), none⟩]
def f35 : RFunc := ⟨[.cell 4 3 true], (.seq (.region f35r0 [1, 2, 4]) (.seq (.region f35r1 [1, 2, 4, 5]) (.seq (.seq (.region f35r2 [1, 2, 4, 5, 6]) (.block 0 f35L0)) (.seq (.region f35r8 [4]) .ret)))), true⟩

/-! quire/quireref07.visible -/
@[simp] def f36r0 : List ROper := [
  ⟨some 2, .mv (.c (.bool false)), none⟩]
@[simp] def f36r1 : List ROper := [
  ⟨some 3, .mv (.t 0), none⟩,
  ⟨some 4, .bin .eql (.t 3) (.c (.int .i64 (.ofNat 1))), none⟩,
  ⟨some 5, .mv (.t 4), none⟩,
  ⟨some 6, .mv (.t 0), some (5, false)⟩,
  ⟨some 7, .bin .eql (.t 6) (.c (.int .i64 (.ofNat 2))), some (5, false)⟩,
  ⟨some 8, .pick (.t 5) (.c (.bool true)) (.t 7), none⟩,
  ⟨some 2, .mv (.t 8), none⟩]
def f36 : RFunc := ⟨[.t 2], (.seq (.region f36r0 [0]) (.seq (.region f36r1 [2]) .ret)), true⟩

/-! quire/quireref07.ByteWidth -/
@[simp] def f37r0 : List ROper := [
  ⟨some 4, .mv (.c (.int .i64 (.ofNat 0))), none⟩]
@[simp] def f37r1 : List ROper := [
  ⟨some 5, .mv (.t 0), none⟩,
  ⟨some 6, .call 22 [(.t 5)], none⟩,
  ⟨some 7, .mv (.t 1), none⟩,
  ⟨some 8, .bin .mul (.t 6) (.t 7), none⟩,
  ⟨some 9, .bin .quo (.t 8) (.c (.int .i64 (.ofNat 8))), none⟩,
  ⟨some 4, .mv (.t 9), none⟩]
def f37 : RFunc := ⟨[.t 4], (.seq (.region f37r0 [0, 1]) (.seq (.region f37r1 [4]) .ret)), true⟩

/-! quire/quireref07.TextWidth -/
@[simp] def f38r0 : List ROper := [
  ⟨some 4, .mv (.c (.int .i64 (.ofNat 0))), none⟩]
@[simp] def f38r1 : List ROper := [
  ⟨some 5, .mv (.c (.int .i64 (.ofNat 0))), none⟩]
@[simp] def f38r2 : List ROper := [
  ⟨some 6, .mv (.c (.int .i64 (.ofNat 0))), none⟩]
@[simp] def f38r3 : List ROper := [
  ⟨some 7, .mv (.t 6), none⟩,
  ⟨some 8, .mv (.t 0), none⟩,
  ⟨some 9, .len .str (.t 8), none⟩,
  ⟨some 10, .bin .lss (.t 7) (.t 9), none⟩]
@[simp] def f38r4 : List ROper := [
  ⟨some 13, .mv (.t 5), none⟩,
  ⟨some 14, .mv (.t 0), none⟩,
  ⟨some 15, .mv (.t 6), none⟩,
  ⟨some 16, .index (.t 14) (.t 15), none⟩,
  ⟨some 17, .mv (.t 1), none⟩,
  ⟨some 18, .call 37 [(.t 16), (.t 17)], none⟩,
  ⟨some 19, .bin .add (.t 13) (.t 18), none⟩,
  ⟨some 5, .mv (.t 19), none⟩]
@[simp] def f38r5 : List ROper := [
  ⟨some 11, .mv (.t 6), none⟩,
  ⟨some 12, .bin .add (.t 11) (.c (.int .i64 (.ofNat 1))), none⟩,
  ⟨some 6, .mv (.t 12), none⟩]
def f38B0 : RC := (.seq (.seq (.region f38r3 [0, 1, 5, 6, 10]) (.cond (.t 10) .skip (.exit 0))) (.seq (.block 1 (.region f38r4 [0, 1, 5, 6])) (.region f38r5 [0, 1, 5, 6])))
def f38L0 : RC := .loop [0, 1, 5, 6] f38B0
@[simp] def f38r6 : List ROper := [
  ⟨some 20, .mv (.t 5), none⟩,
  ⟨some 4, .mv (.t 20), none⟩]
def f38 : RFunc := ⟨[.t 4], (.seq (.region f38r0 [0, 1]) (.seq (.region f38r1 [0, 1, 5]) (.seq (.seq (.region f38r2 [0, 1, 5, 6]) (.block 0 f38L0)) (.seq (.region f38r6 [4]) .ret)))), true⟩

/-! quire/quireref07.Pair -/
@[simp] def f39r0 : List ROper := [
  ⟨some 6, .mv (.c (.int .i64 (.ofNat 0))), none⟩]
@[simp] def f39r1 : List ROper := [
  ⟨some 8, .mv (.t 0), none⟩,
  ⟨some 9, .mv (.t 1), none⟩,
  ⟨some 10, .lit 1 false [(.int .u8 (.ofNat 0))] 2 [(0, (.t 8)), (1, (.t 9))], none⟩,
  ⟨some 11, .b2s (.t 10), none⟩,
  ⟨some 7, .mv (.t 11), none⟩]
@[simp] def f39r2 : List ROper := [
  ⟨some 12, .lit 1 false [(.str [])] 19 [(0, (.c (.str [65, 84]))), (1, (.c (.str [65, 86]))), (2, (.c (.str [65, 87]))), (3, (.c (.str [65, 89]))), (4, (.c (.str [84, 65]))), (5, (.c (.str [86, 65]))), (6, (.c (.str [87, 65]))), (7, (.c (.str [89, 65]))), (8, (.c (.str [76, 84]))), (9, (.c (.str [76, 86]))), (10, (.c (.str [76, 89]))), (11, (.c (.str [80, 65]))), (12, (.c (.str [84, 111]))), (13, (.c (.str [84, 97]))), (14, (.c (.str [84, 101]))), (15, (.c (.str [86, 111]))), (16, (.c (.str [86, 97]))), (17, (.c (.str [89, 111]))), (18, (.c (.str [89, 97])))], none⟩,
  ⟨some 13, .mv (.t 7), none⟩,
  ⟨some 14, .call 60 [(.t 12), (.t 13)], none⟩]
@[simp] def f39r3 : List ROper := [
  ⟨some 15, .mv (.t 2), none⟩,
  ⟨some 16, .bin .mul (.c (.int .i64 (.ofNat 2))) (.t 15), none⟩,
  ⟨some 17, .bin .quo (.t 16) (.c (.int .i64 (.ofNat 16))), none⟩,
  ⟨some 18, .un .neg (.t 17), none⟩,
  ⟨some 6, .mv (.t 18), none⟩]
@[simp] def f39r4 : List ROper := [
  ⟨some 19, .lit 1 false [(.str [])] 10 [(0, (.c (.str [114, 46]))), (1, (.c (.str [114, 44]))), (2, (.c (.str [102, 46]))), (3, (.c (.str [102, 44]))), (4, (.c (.str [118, 46]))), (5, (.c (.str [121, 46]))), (6, (.c (.str [65, 118]))), (7, (.c (.str [65, 121]))), (8, (.c (.str [111, 118]))), (9, (.c (.str [118, 111])))], none⟩,
  ⟨some 20, .mv (.t 7), none⟩,
  ⟨some 21, .call 60 [(.t 19), (.t 20)], none⟩]
@[simp] def f39r5 : List ROper := [
  ⟨some 22, .mv (.t 2), none⟩,
  ⟨some 23, .bin .quo (.t 22) (.c (.int .i64 (.ofNat 16))), none⟩,
  ⟨some 24, .un .neg (.t 23), none⟩,
  ⟨some 6, .mv (.t 24), none⟩]
@[simp] def f39r6 : List ROper := [
  ⟨some 6, .mv (.c (.int .i64 (.ofNat 0))), none⟩]
def f39 : RFunc := ⟨[.t 6], (.seq (.region f39r0 [0, 1, 2]) (.seq (.region f39r1 [2, 7]) (.seq (.seq (.region f39r2 [2, 7, 14]) (.cond (.t 14) (.seq (.region f39r3 [6]) .ret) .skip)) (.seq (.seq (.region f39r4 [2, 21]) (.cond (.t 21) (.seq (.region f39r5 [6]) .ret) .skip)) (.seq (.region f39r6 [6]) .ret))))), true⟩

/-! strings.IndexByte -/
@[simp] def f40r0 : List ROper := [
  ⟨some 4, .mv (.c (.int .i64 (.ofNat 0))), none⟩]
@[simp] def f40r1 : List ROper := [
  ⟨some 5, .mv (.t 0), none⟩,
  ⟨some 6, .mv (.t 1), none⟩,
  ⟨some 7, .call 61 [(.t 5), (.t 6)], none⟩,
  ⟨some 4, .mv (.t 7), none⟩]
def f40 : RFunc := ⟨[.t 4], (.seq (.region f40r0 [0, 1]) (.seq (.region f40r1 [4]) .ret)), true⟩

/-! quire/metric.spans -/
@[simp] def f41r0 : List ROper := [
  ⟨some 4, .mv (.c (.bool false)), none⟩]
@[simp] def f41r1 : List ROper := [
  ⟨some 7, .mv (.t 0), none⟩,
  ⟨some 8, .len .slice (.t 7), none⟩,
  ⟨some 9, .mv (.c (.int .i64 (.ofNat 0))), none⟩]
@[simp] def f41r2 : List ROper := [
  ⟨some 10, .bin .lss (.t 9) (.t 8), none⟩]
@[simp] def f41r3 : List ROper := [
  ⟨some 11, .iaddr 4 (.t 7) (.t 9), none⟩,
  ⟨some 12, .load 4 true (.t 11), none⟩,
  ⟨some 6, .alloc [(.int .i64 (.ofNat 0)), (.int .i64 (.ofNat 0)), (.int .i64 (.ofNat 0)), (.int .i64 (.ofNat 0))], none⟩,
  ⟨none, .store 4 (.t 6) (.t 12), none⟩]
@[simp] def f41r4 : List ROper := [
  ⟨some 13, .faddr 0 (.t 6), none⟩,
  ⟨some 14, .load 1 false (.t 13), none⟩,
  ⟨some 15, .bin .lss (.t 14) (.c (.int .i64 (.ofNat 1))), none⟩,
  ⟨some 16, .mv (.t 15), none⟩,
  ⟨some 17, .faddr 0 (.t 6), some (16, false)⟩,
  ⟨some 18, .load 1 false (.t 17), some (16, false)⟩,
  ⟨some 19, .mv (.t 1), some (16, false)⟩,
  ⟨some 20, .bin .gtr (.t 18) (.t 19), some (16, false)⟩,
  ⟨some 21, .pick (.t 16) (.c (.bool true)) (.t 20), none⟩,
  ⟨some 22, .mv (.t 21), none⟩,
  ⟨some 23, .faddr 1 (.t 6), some (22, false)⟩,
  ⟨some 24, .load 3 true (.t 23), some (22, false)⟩,
  ⟨some 25, .call 62 [(.t 24)], some (22, false)⟩,
  ⟨some 26, .un .not (.t 25), some (22, false)⟩,
  ⟨some 27, .pick (.t 22) (.c (.bool true)) (.t 26), none⟩]
@[simp] def f41r5 : List ROper := [
  ⟨some 4, .mv (.c (.bool false)), none⟩]
@[simp] def f41r6 : List ROper := [
  ⟨some 28, .mv (.t 1), none⟩,
  ⟨some 29, .faddr 0 (.t 6), none⟩,
  ⟨some 30, .load 1 false (.t 29), none⟩,
  ⟨some 31, .bin .sub (.t 28) (.t 30), none⟩,
  ⟨some 1, .mv (.t 31), none⟩]
@[simp] def f41r7 : List ROper := [
  ⟨some 32, .bin .add (.t 9) (.c (.int .i64 (.ofNat 1))), none⟩,
  ⟨some 9, .mv (.t 32), none⟩]
def f41B0 : RC := (.seq (.region f41r2 [1, 7, 8, 9, 10]) (.seq (.cond (.t 10) .skip (.exit 0)) (.seq (.block 1 (.seq (.region f41r3 [1, 6, 7, 8, 9]) (.seq (.seq (.region f41r4 [1, 6, 7, 8, 9, 27]) (.cond (.t 27) (.seq (.region f41r5 [4]) .ret) .skip)) (.region f41r6 [1, 7, 8, 9])))) (.region f41r7 [1, 7, 8, 9]))))
def f41L0 : RC := .loop [1, 7, 8, 9] f41B0
@[simp] def f41r8 : List ROper := [
  ⟨some 33, .mv (.t 1), none⟩,
  ⟨some 34, .bin .eql (.t 33) (.c (.int .i64 (.ofNat 0))), none⟩,
  ⟨some 4, .mv (.t 34), none⟩]
def f41 : RFunc := ⟨[.t 4], (.seq (.region f41r0 [0, 1]) (.seq (.seq (.region f41r1 [1, 7, 8, 9]) (.block 0 f41L0)) (.seq (.region f41r8 [4]) .ret))), true⟩

/-! quire/metric.props -/
@[simp] def f42r0 : List ROper := [
  ⟨some 1, .box 17 (.t 0), none⟩,
  ⟨some 2, .mv (.c (.bool false)), none⟩]
@[simp] def f42r1 : List ROper := [
  ⟨some 5, .faddr 0 (.t 1), none⟩,
  ⟨some 6, .load 1 false (.t 5), none⟩,
  ⟨some 7, .build [(.int .i64 (.ofNat 0)), (.int .i64 (.ofNat 0)), (.int .i64 (.ofNat 0))] [(0, 1, (.t 6)), (1, 1, (.c (.int .i64 (.ofNat 1)))), (2, 1, (.c (.int .i64 (.ofNat 64))))], none⟩,
  ⟨some 8, .faddr 1 (.t 1), none⟩,
  ⟨some 9, .load 1 false (.t 8), none⟩,
  ⟨some 10, .build [(.int .i64 (.ofNat 0)), (.int .i64 (.ofNat 0)), (.int .i64 (.ofNat 0))] [(0, 1, (.t 9)), (1, 1, (.c (.int .i64 (.ofNat 1)))), (2, 1, (.c (.int .i64 (.ofNat 255))))], none⟩,
  ⟨some 11, .faddr 2 (.t 1), none⟩,
  ⟨some 12, .load 1 false (.t 11), none⟩,
  ⟨some 13, .build [(.int .i64 (.ofNat 0)), (.int .i64 (.ofNat 0)), (.int .i64 (.ofNat 0))] [(0, 1, (.t 12)), (1, 1, (.c (.int .i64 (.ofNat 0)))), (2, 1, (.c (.int .i64 (.ofNat 3))))], none⟩,
  ⟨some 14, .faddr 3 (.t 1), none⟩,
  ⟨some 15, .load 1 false (.t 14), none⟩,
  ⟨some 16, .build [(.int .i64 (.ofNat 0)), (.int .i64 (.ofNat 0)), (.int .i64 (.ofNat 0))] [(0, 1, (.t 15)), (1, 1, (.c (.int .i64 (.ofNat 0)))), (2, 1, (.c (.int .i64 (.ofNat 255))))], none⟩,
  ⟨some 17, .faddr 4 (.t 1), none⟩,
  ⟨some 18, .load 1 false (.t 17), none⟩,
  ⟨some 19, .build [(.int .i64 (.ofNat 0)), (.int .i64 (.ofNat 0)), (.int .i64 (.ofNat 0))] [(0, 1, (.t 18)), (1, 1, (.c (.int .i64 (.ofNat 0)))), (2, 1, (.c (.int .i64 (.ofNat 255))))], none⟩,
  ⟨some 20, .faddr 5 (.t 1), none⟩,
  ⟨some 21, .load 1 false (.t 20), none⟩,
  ⟨some 22, .build [(.int .i64 (.ofNat 0)), (.int .i64 (.ofNat 0)), (.int .i64 (.ofNat 0))] [(0, 1, (.t 21)), (1, 1, (.c (.int .i64 (.ofNat 0)))), (2, 1, (.c (.int .i64 (.ofNat 255))))], none⟩,
  ⟨some 23, .faddr 6 (.t 1), none⟩,
  ⟨some 24, .load 1 false (.t 23), none⟩,
  ⟨some 25, .build [(.int .i64 (.ofNat 0)), (.int .i64 (.ofNat 0)), (.int .i64 (.ofNat 0))] [(0, 1, (.t 24)), (1, 1, (.c (.int .i64 (.ofNat 0)))), (2, 1, (.c (.int .i64 (.ofNat 255))))], none⟩,
  ⟨some 26, .faddr 7 (.t 1), none⟩,
  ⟨some 27, .load 1 false (.t 26), none⟩,
  ⟨some 28, .build [(.int .i64 (.ofNat 0)), (.int .i64 (.ofNat 0)), (.int .i64 (.ofNat 0))] [(0, 1, (.t 27)), (1, 1, (.c (.int .i64 (.ofNat 0)))), (2, 1, (.c (.int .i64 (.ofNat 255))))], none⟩,
  ⟨some 29, .faddr 8 (.t 1), none⟩,
  ⟨some 30, .load 1 false (.t 29), none⟩,
  ⟨some 31, .build [(.int .i64 (.ofNat 0)), (.int .i64 (.ofNat 0)), (.int .i64 (.ofNat 0))] [(0, 1, (.t 30)), (1, 1, (.c (.int .i64 (.ofNat 0)))), (2, 1, (.c (.int .i64 (.ofNat 1))))], none⟩,
  ⟨some 32, .faddr 9 (.t 1), none⟩,
  ⟨some 33, .load 1 false (.t 32), none⟩,
  ⟨some 34, .build [(.int .i64 (.ofNat 0)), (.int .i64 (.ofNat 0)), (.int .i64 (.ofNat 0))] [(0, 1, (.t 33)), (1, 1, (.c (.int .i64 (.ofNat 0)))), (2, 1, (.c (.int .i64 (.ofNat 1))))], none⟩,
  ⟨some 35, .faddr 10 (.t 1), none⟩,
  ⟨some 36, .load 1 false (.t 35), none⟩,
  ⟨some 37, .build [(.int .i64 (.ofNat 0)), (.int .i64 (.ofNat 0)), (.int .i64 (.ofNat 0))] [(0, 1, (.t 36)), (1, 1, (.c (.int .i64 (.ofNat 1)))), (2, 1, (.c (.int .i64 (.ofNat 4))))], none⟩,
  ⟨some 38, .faddr 11 (.t 1), none⟩,
  ⟨some 39, .load 1 false (.t 38), none⟩,
  ⟨some 40, .build [(.int .i64 (.ofNat 0)), (.int .i64 (.ofNat 0)), (.int .i64 (.ofNat 0))] [(0, 1, (.t 39)), (1, 1, (.c (.int .i64 (.ofNat 1)))), (2, 1, (.c (.int .i64 (.ofNat 4))))], none⟩,
  ⟨some 41, .faddr 12 (.t 1), none⟩,
  ⟨some 42, .load 1 false (.t 41), none⟩,
  ⟨some 43, .build [(.int .i64 (.ofNat 0)), (.int .i64 (.ofNat 0)), (.int .i64 (.ofNat 0))] [(0, 1, (.t 42)), (1, 1, (.c (.int .i64 (.ofNat 0)))), (2, 1, (.c (.int .i64 (.ofNat 1))))], none⟩,
  ⟨some 44, .faddr 13 (.t 1), none⟩,
  ⟨some 45, .load 1 false (.t 44), none⟩,
  ⟨some 46, .build [(.int .i64 (.ofNat 0)), (.int .i64 (.ofNat 0)), (.int .i64 (.ofNat 0))] [(0, 1, (.t 45)), (1, 1, (.c (.int .i64 (.ofNat 0)))), (2, 1, (.c (.int .i64 (.ofNat 1))))], none⟩,
  ⟨some 47, .faddr 14 (.t 1), none⟩,
  ⟨some 48, .load 1 false (.t 47), none⟩,
  ⟨some 49, .build [(.int .i64 (.ofNat 0)), (.int .i64 (.ofNat 0)), (.int .i64 (.ofNat 0))] [(0, 1, (.t 48)), (1, 1, (.c (.int .i64 (.ofNat 0)))), (2, 1, (.c (.int .i64 (.ofNat 4))))], none⟩,
  ⟨some 50, .faddr 15 (.t 1), none⟩,
  ⟨some 51, .load 1 false (.t 50), none⟩,
  ⟨some 52, .build [(.int .i64 (.ofNat 0)), (.int .i64 (.ofNat 0)), (.int .i64 (.ofNat 0))] [(0, 1, (.t 51)), (1, 1, (.c (.int .i64 (.ofNat 0)))), (2, 1, (.c (.int .i64 (.ofNat 8))))], none⟩,
  ⟨some 53, .faddr 16 (.t 1), none⟩,
  ⟨some 54, .load 1 false (.t 53), none⟩,
  ⟨some 55, .build [(.int .i64 (.ofNat 0)), (.int .i64 (.ofNat 0)), (.int .i64 (.ofNat 0))] [(0, 1, (.t 54)), (1, 1, (.c (.int .i64 (.ofNat 0)))), (2, 1, (.c (.int .i64 (.ofNat 3))))], none⟩,
  ⟨some 56, .build [(.int .i64 (.ofNat 0)), (.int .i64 (.ofNat 0)), (.int .i64 (.ofNat 0)), (.int .i64 (.ofNat 0)), (.int .i64 (.ofNat 0)), (.int .i64 (.ofNat 0)), (.int .i64 (.ofNat 0)), (.int .i64 (.ofNat 0)), (.int .i64 (.ofNat 0)), (.int .i64 (.ofNat 0)), (.int .i64 (.ofNat 0)), (.int .i64 (.ofNat 0)), (.int .i64 (.ofNat 0)), (.int .i64 (.ofNat 0)), (.int .i64 (.ofNat 0)), (.int .i64 (.ofNat 0)), (.int .i64 (.ofNat 0)), (.int .i64 (.ofNat 0)), (.int .i64 (.ofNat 0)), (.int .i64 (.ofNat 0)), (.int .i64 (.ofNat 0)), (.int .i64 (.ofNat 0)), (.int .i64 (.ofNat 0)), (.int .i64 (.ofNat 0)), (.int .i64 (.ofNat 0)), (.int .i64 (.ofNat 0)), (.int .i64 (.ofNat 0)), (.int .i64 (.ofNat 0)), (.int .i64 (.ofNat 0)), (.int .i64 (.ofNat 0)), (.int .i64 (.ofNat 0)), (.int .i64 (.ofNat 0)), (.int .i64 (.ofNat 0)), (.int .i64 (.ofNat 0)), (.int .i64 (.ofNat 0)), (.int .i64 (.ofNat 0)), (.int .i64 (.ofNat 0)), (.int .i64 (.ofNat 0)), (.int .i64 (.ofNat 0)), (.int .i64 (.ofNat 0)), (.int .i64 (.ofNat 0)), (.int .i64 (.ofNat 0)), (.int .i64 (.ofNat 0)), (.int .i64 (.ofNat 0)), (.int .i64 (.ofNat 0)), (.int .i64 (.ofNat 0)), (.int .i64 (.ofNat 0)), (.int .i64 (.ofNat 0)), (.int .i64 (.ofNat 0)), (.int .i64 (.ofNat 0)), (.int .i64 (.ofNat 0))] [(0, 3, (.t 7)), (3, 3, (.t 10)), (6, 3, (.t 13)), (9, 3, (.t 16)), (12, 3, (.t 19)), (15, 3, (.t 22)), (18, 3, (.t 25)), (21, 3, (.t 28)), (24, 3, (.t 31)), (27, 3, (.t 34)), (30, 3, (.t 37)), (33, 3, (.t 40)), (36, 3, (.t 43)), (39, 3, (.t 46)), (42, 3, (.t 49)), (45, 3, (.t 52)), (48, 3, (.t 55))], none⟩,
  ⟨some 57, .mv (.c (.int .i64 (.ofNat 0))), none⟩]
@[simp] def f42r2 : List ROper := [
  ⟨some 58, .bin .lss (.t 57) (.c (.int .i64 (.ofNat 17))), none⟩]
@[simp] def f42r3 : List ROper := [
  ⟨some 59, .indexA 3 true 17 (.t 56) (.t 57), none⟩,
  ⟨some 4, .alloc [(.int .i64 (.ofNat 0)), (.int .i64 (.ofNat 0)), (.int .i64 (.ofNat 0))], none⟩,
  ⟨none, .store 3 (.t 4) (.t 59), none⟩]
@[simp] def f42r4 : List ROper := [
  ⟨some 60, .faddr 0 (.t 4), none⟩,
  ⟨some 61, .load 1 false (.t 60), none⟩,
  ⟨some 62, .faddr 1 (.t 4), none⟩,
  ⟨some 63, .load 1 false (.t 62), none⟩,
  ⟨some 64, .bin .lss (.t 61) (.t 63), none⟩,
  ⟨some 65, .mv (.t 64), none⟩,
  ⟨some 66, .faddr 0 (.t 4), some (65, false)⟩,
  ⟨some 67, .load 1 false (.t 66), some (65, false)⟩,
  ⟨some 68, .faddr 2 (.t 4), some (65, false)⟩,
  ⟨some 69, .load 1 false (.t 68), some (65, false)⟩,
  ⟨some 70, .bin .gtr (.t 67) (.t 69), some (65, false)⟩,
  ⟨some 71, .pick (.t 65) (.c (.bool true)) (.t 70), none⟩]
@[simp] def f42r5 : List ROper := [
  ⟨some 2, .mv (.c (.bool false)), none⟩]
@[simp] def f42r6 : List ROper := [
  ⟨some 72, .bin .add (.t 57) (.c (.int .i64 (.ofNat 1))), none⟩,
  ⟨some 57, .mv (.t 72), none⟩]
def f42B0 : RC := (.seq (.region f42r2 [56, 57, 58]) (.seq (.cond (.t 58) .skip (.exit 0)) (.seq (.block 1 (.seq (.region f42r3 [4, 56, 57]) (.seq (.region f42r4 [56, 57, 71]) (.cond (.t 71) (.seq (.region f42r5 [2]) .ret) .skip)))) (.region f42r6 [56, 57]))))
def f42L0 : RC := .loop [56, 57] f42B0
@[simp] def f42r7 : List ROper := [
  ⟨some 2, .mv (.c (.bool true)), none⟩]
def f42 : RFunc := ⟨[.t 2], (.seq (.region f42r0 [1]) (.seq (.seq (.region f42r1 [56, 57]) (.block 0 f42L0)) (.seq (.region f42r7 [2]) .ret))), true⟩

/-! quire/metric.shown -/
@[simp] def f43r0 : List ROper := [
  ⟨some 4, .mv (.c (.bool false)), none⟩]
@[simp] def f43r1 : List ROper := [
  ⟨some 7, .mv (.t 0), none⟩,
  ⟨some 8, .s2b (.t 7), none⟩,
  ⟨some 9, .len .slice (.t 8), none⟩,
  ⟨some 10, .mv (.c (.int .i64 (.ofNat 0))), none⟩]
@[simp] def f43r2 : List ROper := [
  ⟨some 11, .bin .lss (.t 10) (.t 9), none⟩]
@[simp] def f43r3 : List ROper := [
  ⟨some 12, .iaddr 1 (.t 8) (.t 10), none⟩,
  ⟨some 13, .load 1 false (.t 12), none⟩,
  ⟨some 6, .mv (.t 13), none⟩]
@[simp] def f43r4 : List ROper := [
  ⟨some 14, .mv (.t 6), none⟩,
  ⟨some 15, .bin .leq (.t 14) (.c (.int .u8 (.ofNat 32))), none⟩,
  ⟨some 16, .mv (.t 15), none⟩,
  ⟨some 17, .mv (.t 6), some (16, false)⟩,
  ⟨some 18, .bin .gtr (.t 17) (.c (.int .u8 (.ofNat 126))), some (16, false)⟩,
  ⟨some 19, .pick (.t 16) (.c (.bool true)) (.t 18), none⟩]
@[simp] def f43r5 : List ROper := [
  ⟨some 4, .mv (.c (.bool false)), none⟩]
@[simp] def f43r6 : List ROper := [
  ⟨some 20, .bin .add (.t 10) (.c (.int .i64 (.ofNat 1))), none⟩,
  ⟨some 10, .mv (.t 20), none⟩]
def f43B0 : RC := (.seq (.region f43r2 [0, 1, 8, 9, 10, 11]) (.seq (.cond (.t 11) .skip (.exit 0)) (.seq (.block 1 (.seq (.region f43r3 [0, 1, 6, 8, 9, 10]) (.seq (.region f43r4 [0, 1, 8, 9, 10, 19]) (.cond (.t 19) (.seq (.region f43r5 [4]) .ret) .skip)))) (.region f43r6 [0, 1, 8, 9, 10]))))
def f43L0 : RC := .loop [0, 1, 8, 9, 10] f43B0
@[simp] def f43r7 : List ROper := [
  ⟨some 21, .mv (.t 0), none⟩,
  ⟨some 22, .len .str (.t 21), none⟩,
  ⟨some 23, .mv (.t 1), none⟩,
  ⟨some 24, .bin .leq (.t 22) (.t 23), none⟩,
  ⟨some 4, .mv (.t 24), none⟩]
def f43 : RFunc := ⟨[.t 4], (.seq (.region f43r0 [0, 1]) (.seq (.seq (.region f43r1 [0, 1, 8, 9, 10]) (.block 0 f43L0)) (.seq (.region f43r7 [4]) .ret))), true⟩

/-! strings.Count -/
@[simp] def f44r0 : List ROper := [
  ⟨some 4, .mv (.c (.int .i64 (.ofNat 0))), none⟩]
@[simp] def f44r1 : List ROper := [
  ⟨some 7, .mv (.t 1), none⟩,
  ⟨some 8, .len .str (.t 7), none⟩,
  ⟨some 9, .bin .eql (.t 8) (.c (.int .i64 (.ofNat 0))), none⟩]
@[simp] def f44r2 : List ROper := [
  ⟨some 10, .mv (.t 0), none⟩,
  ⟨some 11, .call 63 [(.t 10)], none⟩,
  ⟨some 12, .bin .add (.t 11) (.c (.int .i64 (.ofNat 1))), none⟩,
  ⟨some 4, .mv (.t 12), none⟩]
@[simp] def f44r3 : List ROper := [
  ⟨some 13, .mv (.t 1), none⟩,
  ⟨some 14, .len .str (.t 13), none⟩,
  ⟨some 15, .bin .eql (.t 14) (.c (.int .i64 (.ofNat 1))), none⟩]
@[simp] def f44r4 : List ROper := [
  ⟨some 16, .mv (.t 0), none⟩,
  ⟨some 17, .mv (.t 1), none⟩,
  ⟨some 18, .index (.t 17) (.c (.int .i64 (.ofNat 0))), none⟩,
  ⟨some 19, .call 64 [(.t 16), (.t 18)], none⟩,
  ⟨some 4, .mv (.t 19), none⟩]
@[simp] def f44r5 : List ROper := [
  ⟨some 5, .mv (.c (.int .i64 (.ofNat 0))), none⟩]
@[simp] def f44r6 : List ROper := [
  ⟨some 20, .mv (.t 0), none⟩,
  ⟨some 21, .mv (.t 1), none⟩,
  ⟨some 22, .call 65 [(.t 20), (.t 21)], none⟩,
  ⟨some 6, .mv (.t 22), none⟩]
@[simp] def f44r7 : List ROper := [
  ⟨some 23, .mv (.t 6), none⟩,
  ⟨some 24, .bin .eql (.t 23) (.c (.int .i64 (.negSucc 0))), none⟩]
@[simp] def f44r8 : List ROper := [
  ⟨some 25, .mv (.t 5), none⟩,
  ⟨some 4, .mv (.t 25), none⟩]
@[simp] def f44r9 : List ROper := [
  ⟨some 26, .mv (.t 5), none⟩,
  ⟨some 27, .bin .add (.t 26) (.c (.int .i64 (.ofNat 1))), none⟩,
  ⟨some 5, .mv (.t 27), none⟩]
@[simp] def f44r10 : List ROper := [
  ⟨some 28, .mv (.t 0), none⟩,
  ⟨some 29, .mv (.t 6), none⟩,
  ⟨some 30, .mv (.t 1), none⟩,
  ⟨some 31, .len .str (.t 30), none⟩,
  ⟨some 32, .bin .add (.t 29) (.t 31), none⟩,
  ⟨some 33, .slice true 1 (.t 28) (some (.t 32)) none none, none⟩,
  ⟨some 0, .mv (.t 33), none⟩]
def f44B0 : RC := (.block 1 (.seq (.region f44r6 [0, 1, 5, 6]) (.seq (.seq (.region f44r7 [0, 1, 5, 6, 24]) (.cond (.t 24) (.seq (.region f44r8 [4]) .ret) .skip)) (.seq (.region f44r9 [0, 1, 5, 6]) (.region f44r10 [0, 1, 5])))))
def f44L0 : RC := .loop [0, 1, 5] f44B0
def f44 : RFunc := ⟨[.t 4], (.seq (.region f44r0 [0, 1]) (.seq (.seq (.region f44r1 [0, 1, 9]) (.cond (.t 9) (.seq (.region f44r2 [4]) .ret) .skip)) (.seq (.seq (.region f44r3 [0, 1, 15]) (.cond (.t 15) (.seq (.region f44r4 [4]) .ret) .skip)) (.seq (.region f44r5 [0, 1, 5]) (.block 0 f44L0))))), true⟩

/-! quire/quireref06.Wrong -/
@[simp] def f45r0 : List ROper := [
  ⟨some 2, .mv (.c (.int .i64 (.ofNat 0))), none⟩]
@[simp] def f45r1 : List ROper := [
  ⟨some 4, .mv (.t 0), none⟩,
  ⟨some 5, .len .str (.t 4), none⟩,
  ⟨some 6, .bin .gtr (.t 5) (.c (.int .i64 (.ofNat 4096))), none⟩]
@[simp] def f45r2 : List ROper := [
  ⟨some 2, .mv (.c (.int .i64 (.ofNat 3))), none⟩]
@[simp] def f45r3 : List ROper := [
  ⟨some 3, .mv (.c (.int .i64 (.ofNat 0))), none⟩]
@[simp] def f45r4 : List ROper := [
  ⟨some 7, .mv (.t 3), none⟩,
  ⟨some 8, .mv (.t 0), none⟩,
  ⟨some 9, .len .str (.t 8), none⟩,
  ⟨some 10, .bin .lss (.t 7) (.t 9), none⟩]
@[simp] def f45r5 : List ROper := [
  ⟨some 13, .mv (.t 0), none⟩,
  ⟨some 14, .mv (.t 3), none⟩,
  ⟨some 15, .index (.t 13) (.t 14), none⟩,
  ⟨some 16, .call 58 [(.t 15)], none⟩,
  ⟨some 17, .bin .eql (.t 16) (.c (.int .i64 (.ofNat 0))), none⟩]
@[simp] def f45r6 : List ROper := [
  ⟨some 2, .mv (.c (.int .i64 (.ofNat 4))), none⟩]
@[simp] def f45r7 : List ROper := [
  ⟨some 11, .mv (.t 3), none⟩,
  ⟨some 12, .bin .add (.t 11) (.c (.int .i64 (.ofNat 1))), none⟩,
  ⟨some 3, .mv (.t 12), none⟩]
def f45B0 : RC := (.seq (.seq (.region f45r4 [0, 3, 10]) (.cond (.t 10) .skip (.exit 0))) (.seq (.block 1 (.seq (.region f45r5 [0, 3, 17]) (.cond (.t 17) (.seq (.region f45r6 [2]) .ret) .skip))) (.region f45r7 [0, 3])))
def f45L0 : RC := .loop [0, 3] f45B0
@[simp] def f45r8 : List ROper := [
  ⟨some 2, .mv (.c (.int .i64 (.ofNat 0))), none⟩]
def f45 : RFunc := ⟨[.t 2], (.seq (.region f45r0 [0]) (.seq (.seq (.region f45r1 [0, 6]) (.cond (.t 6) (.seq (.region f45r2 [2]) .ret) .skip)) (.seq (.seq (.region f45r3 [0, 3]) (.block 0 f45L0)) (.seq (.region f45r8 [2]) .ret)))), true⟩

/-! quire/quireref07.Char -/
@[simp] def f46r0 : List ROper := [
  ⟨some 1, .box 3 (.t 0), none⟩,
  ⟨some 2, .mv (.c (.bool false)), none⟩]
@[simp] def f46r1 : List ROper := [
  ⟨some 3, .faddr 0 (.t 1), none⟩,
  ⟨some 4, .load 1 false (.t 3), none⟩,
  ⟨some 5, .call 66 [(.t 4), (.c (.int .i64 (.ofNat 0))), (.c (.int .i64 (.ofNat 64)))], none⟩,
  ⟨some 6, .mv (.t 5), none⟩,
  ⟨some 7, .faddr 1 (.t 1), some (6, true)⟩,
  ⟨some 8, .load 1 false (.t 7), some (6, true)⟩,
  ⟨some 9, .call 66 [(.t 8), (.c (.int .i64 (.ofNat 0))), (.c (.int .i64 (.ofNat 15)))], some (6, true)⟩,
  ⟨some 10, .pick (.t 6) (.t 9) (.c (.bool false)), none⟩,
  ⟨some 11, .mv (.t 10), none⟩,
  ⟨some 12, .faddr 2 (.t 1), some (11, true)⟩,
  ⟨some 13, .load 1 false (.t 12), some (11, true)⟩,
  ⟨some 14, .call 67 [(.t 13)], some (11, true)⟩,
  ⟨some 15, .pick (.t 11) (.t 14) (.c (.bool false)), none⟩,
  ⟨some 2, .mv (.t 15), none⟩]
def f46 : RFunc := ⟨[.t 2], (.seq (.region f46r0 [1]) (.seq (.region f46r1 [2]) .ret)), true⟩

/-! quire/quireref07.Props -/
@[simp] def f47r0 : List ROper := [
  ⟨some 1, .box 17 (.t 0), none⟩,
  ⟨some 2, .mv (.c (.bool false)), none⟩]
@[simp] def f47r1 : List ROper := [
  ⟨some 6, .faddr 0 (.t 1), none⟩,
  ⟨some 7, .load 1 false (.t 6), none⟩,
  ⟨some 8, .call 66 [(.t 7), (.c (.int .i64 (.ofNat 1))), (.c (.int .i64 (.ofNat 64)))], none⟩,
  ⟨some 9, .mv (.t 8), none⟩,
  ⟨some 10, .faddr 1 (.t 1), some (9, true)⟩,
  ⟨some 11, .load 1 false (.t 10), some (9, true)⟩,
  ⟨some 12, .call 66 [(.t 11), (.c (.int .i64 (.ofNat 1))), (.c (.int .i64 (.ofNat 255)))], some (9, true)⟩,
  ⟨some 13, .pick (.t 9) (.t 12) (.c (.bool false)), none⟩,
  ⟨some 14, .mv (.t 13), none⟩,
  ⟨some 15, .faddr 2 (.t 1), some (14, true)⟩,
  ⟨some 16, .load 1 false (.t 15), some (14, true)⟩,
  ⟨some 17, .call 66 [(.t 16), (.c (.int .i64 (.ofNat 0))), (.c (.int .i64 (.ofNat 3)))], some (14, true)⟩,
  ⟨some 18, .pick (.t 14) (.t 17) (.c (.bool false)), none⟩,
  ⟨some 3, .mv (.t 18), none⟩]
@[simp] def f47r2 : List ROper := [
  ⟨some 19, .faddr 3 (.t 1), none⟩,
  ⟨some 20, .load 1 false (.t 19), none⟩,
  ⟨some 21, .call 66 [(.t 20), (.c (.int .i64 (.ofNat 0))), (.c (.int .i64 (.ofNat 255)))], none⟩,
  ⟨some 22, .mv (.t 21), none⟩,
  ⟨some 23, .faddr 4 (.t 1), some (22, true)⟩,
  ⟨some 24, .load 1 false (.t 23), some (22, true)⟩,
  ⟨some 25, .call 66 [(.t 24), (.c (.int .i64 (.ofNat 0))), (.c (.int .i64 (.ofNat 255)))], some (22, true)⟩,
  ⟨some 26, .pick (.t 22) (.t 25) (.c (.bool false)), none⟩,
  ⟨some 27, .mv (.t 26), none⟩,
  ⟨some 28, .faddr 5 (.t 1), some (27, true)⟩,
  ⟨some 29, .load 1 false (.t 28), some (27, true)⟩,
  ⟨some 30, .call 66 [(.t 29), (.c (.int .i64 (.ofNat 0))), (.c (.int .i64 (.ofNat 255)))], some (27, true)⟩,
  ⟨some 31, .pick (.t 27) (.t 30) (.c (.bool false)), none⟩,
  ⟨some 32, .mv (.t 31), none⟩,
  ⟨some 33, .faddr 6 (.t 1), some (32, true)⟩,
  ⟨some 34, .load 1 false (.t 33), some (32, true)⟩,
  ⟨some 35, .call 66 [(.t 34), (.c (.int .i64 (.ofNat 0))), (.c (.int .i64 (.ofNat 255)))], some (32, true)⟩,
  ⟨some 36, .pick (.t 32) (.t 35) (.c (.bool false)), none⟩,
  ⟨some 37, .mv (.t 36), none⟩,
  ⟨some 38, .faddr 7 (.t 1), some (37, true)⟩,
  ⟨some 39, .load 1 false (.t 38), some (37, true)⟩,
  ⟨some 40, .call 66 [(.t 39), (.c (.int .i64 (.ofNat 0))), (.c (.int .i64 (.ofNat 255)))], some (37, true)⟩,
  ⟨some 41, .pick (.t 37) (.t 40) (.c (.bool false)), none⟩,
  ⟨some 4, .mv (.t 41), none⟩]
@[simp] def f47r3 : List ROper := [
  ⟨some 42, .faddr 8 (.t 1), none⟩,
  ⟨some 43, .load 1 false (.t 42), none⟩,
  ⟨some 44, .call 67 [(.t 43)], none⟩,
  ⟨some 45, .mv (.t 44), none⟩,
  ⟨some 46, .faddr 9 (.t 1), some (45, true)⟩,
  ⟨some 47, .load 1 false (.t 46), some (45, true)⟩,
  ⟨some 48, .call 67 [(.t 47)], some (45, true)⟩,
  ⟨some 49, .pick (.t 45) (.t 48) (.c (.bool false)), none⟩,
  ⟨some 50, .mv (.t 49), none⟩,
  ⟨some 51, .faddr 12 (.t 1), some (50, true)⟩,
  ⟨some 52, .load 1 false (.t 51), some (50, true)⟩,
  ⟨some 53, .call 67 [(.t 52)], some (50, true)⟩,
  ⟨some 54, .pick (.t 50) (.t 53) (.c (.bool false)), none⟩,
  ⟨some 55, .mv (.t 54), none⟩,
  ⟨some 56, .faddr 13 (.t 1), some (55, true)⟩,
  ⟨some 57, .load 1 false (.t 56), some (55, true)⟩,
  ⟨some 58, .call 67 [(.t 57)], some (55, true)⟩,
  ⟨some 59, .pick (.t 55) (.t 58) (.c (.bool false)), none⟩,
  ⟨some 5, .mv (.t 59), none⟩]
@[simp] def f47r4 : List ROper := [
  ⟨some 60, .mv (.t 3), none⟩,
  ⟨some 61, .mv (.t 60), none⟩,
  ⟨some 62, .mv (.t 4), some (61, true)⟩,
  ⟨some 63, .pick (.t 61) (.t 62) (.c (.bool false)), none⟩,
  ⟨some 64, .mv (.t 63), none⟩,
  ⟨some 65, .mv (.t 5), some (64, true)⟩,
  ⟨some 66, .pick (.t 64) (.t 65) (.c (.bool false)), none⟩,
  ⟨some 67, .mv (.t 66), none⟩,
  ⟨some 68, .faddr 10 (.t 1), some (67, true)⟩,
  ⟨some 69, .load 1 false (.t 68), some (67, true)⟩,
  ⟨some 70, .call 66 [(.t 69), (.c (.int .i64 (.ofNat 1))), (.c (.int .i64 (.ofNat 4)))], some (67, true)⟩,
  ⟨some 71, .pick (.t 67) (.t 70) (.c (.bool false)), none⟩,
  ⟨some 72, .mv (.t 71), none⟩,
  ⟨some 73, .faddr 11 (.t 1), some (72, true)⟩,
  ⟨some 74, .load 1 false (.t 73), some (72, true)⟩,
  ⟨some 75, .call 66 [(.t 74), (.c (.int .i64 (.ofNat 1))), (.c (.int .i64 (.ofNat 4)))], some (72, true)⟩,
  ⟨some 76, .pick (.t 72) (.t 75) (.c (.bool false)), none⟩,
  ⟨some 77, .mv (.t 76), none⟩,
  ⟨some 78, .faddr 14 (.t 1), some (77, true)⟩,
  ⟨some 79, .load 1 false (.t 78), some (77, true)⟩,
  ⟨some 80, .call 66 [(.t 79), (.c (.int .i64 (.ofNat 0))), (.c (.int .i64 (.ofNat 4)))], some (77, true)⟩,
  ⟨some 81, .pick (.t 77) (.t 80) (.c (.bool false)), none⟩,
  ⟨some 82, .mv (.t 81), none⟩,
  ⟨some 83, .faddr 15 (.t 1), some (82, true)⟩,
  ⟨some 84, .load 1 false (.t 83), some (82, true)⟩,
  ⟨some 85, .call 66 [(.t 84), (.c (.int .i64 (.ofNat 0))), (.c (.int .i64 (.ofNat 8)))], some (82, true)⟩,
  ⟨some 86, .pick (.t 82) (.t 85) (.c (.bool false)), none⟩,
  ⟨some 87, .mv (.t 86), none⟩,
  ⟨some 88, .faddr 16 (.t 1), some (87, true)⟩,
  ⟨some 89, .load 1 false (.t 88), some (87, true)⟩,
  ⟨some 90, .call 66 [(.t 89), (.c (.int .i64 (.ofNat 0))), (.c (.int .i64 (.ofNat 3)))], some (87, true)⟩,
  ⟨some 91, .pick (.t 87) (.t 90) (.c (.bool false)), none⟩,
  ⟨some 2, .mv (.t 91), none⟩]
def f47 : RFunc := ⟨[.t 2], (.seq (.region f47r0 [1]) (.seq (.region f47r1 [1, 3]) (.seq (.region f47r2 [1, 3, 4]) (.seq (.region f47r3 [1, 3, 4, 5]) (.seq (.region f47r4 [2]) .ret))))), true⟩

/-! quire/quireref07.shown -/
@[simp] def f48r0 : List ROper := [
  ⟨some 4, .mv (.c (.bool false)), none⟩]
@[simp] def f48r1 : List ROper := [
  ⟨some 5, .mv (.c (.int .i64 (.ofNat 0))), none⟩]
@[simp] def f48r2 : List ROper := [
  ⟨some 6, .mv (.t 5), none⟩,
  ⟨some 7, .mv (.t 0), none⟩,
  ⟨some 8, .len .str (.t 7), none⟩,
  ⟨some 9, .bin .lss (.t 6) (.t 8), none⟩]
@[simp] def f48r3 : List ROper := [
  ⟨some 12, .mv (.t 0), none⟩,
  ⟨some 13, .mv (.t 5), none⟩,
  ⟨some 14, .index (.t 12) (.t 13), none⟩,
  ⟨some 15, .bin .lss (.t 14) (.c (.int .u8 (.ofNat 33))), none⟩,
  ⟨some 16, .mv (.t 15), none⟩,
  ⟨some 17, .mv (.t 0), some (16, false)⟩,
  ⟨some 18, .mv (.t 5), some (16, false)⟩,
  ⟨some 19, .index (.t 17) (.t 18), some (16, false)⟩,
  ⟨some 20, .bin .gtr (.t 19) (.c (.int .u8 (.ofNat 126))), some (16, false)⟩,
  ⟨some 21, .pick (.t 16) (.c (.bool true)) (.t 20), none⟩]
@[simp] def f48r4 : List ROper := [
  ⟨some 4, .mv (.c (.bool false)), none⟩]
@[simp] def f48r5 : List ROper := [
  ⟨some 10, .mv (.t 5), none⟩,
  ⟨some 11, .bin .add (.t 10) (.c (.int .i64 (.ofNat 1))), none⟩,
  ⟨some 5, .mv (.t 11), none⟩]
def f48B0 : RC := (.seq (.seq (.region f48r2 [0, 1, 5, 9]) (.cond (.t 9) .skip (.exit 0))) (.seq (.block 1 (.seq (.region f48r3 [0, 1, 5, 21]) (.cond (.t 21) (.seq (.region f48r4 [4]) .ret) .skip))) (.region f48r5 [0, 1, 5])))
def f48L0 : RC := .loop [0, 1, 5] f48B0
@[simp] def f48r6 : List ROper := [
  ⟨some 22, .mv (.t 0), none⟩,
  ⟨some 23, .len .str (.t 22), none⟩,
  ⟨some 24, .mv (.t 1), none⟩,
  ⟨some 25, .bin .leq (.t 23) (.t 24), none⟩,
  ⟨some 4, .mv (.t 25), none⟩]
def f48 : RFunc := ⟨[.t 4], (.seq (.region f48r0 [0, 1]) (.seq (.seq (.region f48r1 [0, 1, 5]) (.block 0 f48L0)) (.seq (.region f48r6 [4]) .ret))), true⟩

/-! quire/quirekit.SameSpans -/
@[simp] def f49r0 : List ROper := [
  ⟨some 4, .mv (.c (.bool false)), none⟩]
@[simp] def f49r1 : List ROper := [
  ⟨some 6, .mv (.t 0), none⟩,
  ⟨some 7, .len .slice (.t 6), none⟩,
  ⟨some 8, .mv (.t 1), none⟩,
  ⟨some 9, .len .slice (.t 8), none⟩,
  ⟨some 10, .bin .neq (.t 7) (.t 9), none⟩]
@[simp] def f49r2 : List ROper := [
  ⟨some 4, .mv (.c (.bool false)), none⟩]
@[simp] def f49r3 : List ROper := [
  ⟨some 5, .mv (.c (.int .i64 (.ofNat 0))), none⟩]
@[simp] def f49r4 : List ROper := [
  ⟨some 11, .mv (.t 5), none⟩,
  ⟨some 12, .mv (.t 0), none⟩,
  ⟨some 13, .len .slice (.t 12), none⟩,
  ⟨some 14, .bin .lss (.t 11) (.t 13), none⟩]
@[simp] def f49r5 : List ROper := [
  ⟨some 17, .mv (.t 0), none⟩,
  ⟨some 18, .mv (.t 5), none⟩,
  ⟨some 19, .iaddr 4 (.t 17) (.t 18), none⟩,
  ⟨some 20, .load 4 true (.t 19), none⟩,
  ⟨some 21, .mv (.t 1), none⟩,
  ⟨some 22, .mv (.t 5), none⟩,
  ⟨some 23, .iaddr 4 (.t 21) (.t 22), none⟩,
  ⟨some 24, .load 4 true (.t 23), none⟩,
  ⟨some 25, .eq (.agg [.int, .int, .int, .int]) true (.t 20) (.t 24), none⟩]
@[simp] def f49r6 : List ROper := [
  ⟨some 4, .mv (.c (.bool false)), none⟩]
@[simp] def f49r7 : List ROper := [
  ⟨some 15, .mv (.t 5), none⟩,
  ⟨some 16, .bin .add (.t 15) (.c (.int .i64 (.ofNat 1))), none⟩,
  ⟨some 5, .mv (.t 16), none⟩]
def f49B0 : RC := (.seq (.seq (.region f49r4 [0, 1, 5, 14]) (.cond (.t 14) .skip (.exit 0))) (.seq (.block 1 (.seq (.dregion f49r5 [] [] [0, 1, 5, 25]) (.cond (.t 25) (.seq (.region f49r6 [4]) .ret) .skip))) (.region f49r7 [0, 1, 5])))
def f49L0 : RC := .loop [0, 1, 5] f49B0
@[simp] def f49r8 : List ROper := [
  ⟨some 4, .mv (.c (.bool true)), none⟩]
def f49 : RFunc := ⟨[.t 4], (.seq (.region f49r0 [0, 1]) (.seq (.seq (.region f49r1 [0, 1, 10]) (.cond (.t 10) (.seq (.region f49r2 [4]) .ret) .skip)) (.seq (.seq (.region f49r3 [0, 1, 5]) (.block 0 f49L0)) (.seq (.region f49r8 [4]) .ret)))), true⟩

/-! quire/quirekit.SameTexts -/
@[simp] def f50r0 : List ROper := [
  ⟨some 4, .mv (.c (.bool false)), none⟩]
@[simp] def f50r1 : List ROper := [
  ⟨some 6, .mv (.t 0), none⟩,
  ⟨some 7, .len .slice (.t 6), none⟩,
  ⟨some 8, .mv (.t 1), none⟩,
  ⟨some 9, .len .slice (.t 8), none⟩,
  ⟨some 10, .bin .neq (.t 7) (.t 9), none⟩]
@[simp] def f50r2 : List ROper := [
  ⟨some 4, .mv (.c (.bool false)), none⟩]
@[simp] def f50r3 : List ROper := [
  ⟨some 5, .mv (.c (.int .i64 (.ofNat 0))), none⟩]
@[simp] def f50r4 : List ROper := [
  ⟨some 11, .mv (.t 5), none⟩,
  ⟨some 12, .mv (.t 0), none⟩,
  ⟨some 13, .len .slice (.t 12), none⟩,
  ⟨some 14, .bin .lss (.t 11) (.t 13), none⟩]
@[simp] def f50r5 : List ROper := [
  ⟨some 17, .mv (.t 0), none⟩,
  ⟨some 18, .mv (.t 5), none⟩,
  ⟨some 19, .iaddr 1 (.t 17) (.t 18), none⟩,
  ⟨some 20, .load 1 false (.t 19), none⟩,
  ⟨some 21, .mv (.t 1), none⟩,
  ⟨some 22, .mv (.t 5), none⟩,
  ⟨some 23, .iaddr 1 (.t 21) (.t 22), none⟩,
  ⟨some 24, .load 1 false (.t 23), none⟩,
  ⟨some 25, .bin .neq (.t 20) (.t 24), none⟩]
@[simp] def f50r6 : List ROper := [
  ⟨some 4, .mv (.c (.bool false)), none⟩]
@[simp] def f50r7 : List ROper := [
  ⟨some 15, .mv (.t 5), none⟩,
  ⟨some 16, .bin .add (.t 15) (.c (.int .i64 (.ofNat 1))), none⟩,
  ⟨some 5, .mv (.t 16), none⟩]
def f50B0 : RC := (.seq (.seq (.region f50r4 [0, 1, 5, 14]) (.cond (.t 14) .skip (.exit 0))) (.seq (.block 1 (.seq (.dregion f50r5 [] [] [0, 1, 5, 25]) (.cond (.t 25) (.seq (.region f50r6 [4]) .ret) .skip))) (.region f50r7 [0, 1, 5])))
def f50L0 : RC := .loop [0, 1, 5] f50B0
@[simp] def f50r8 : List ROper := [
  ⟨some 4, .mv (.c (.bool true)), none⟩]
def f50 : RFunc := ⟨[.t 4], (.seq (.region f50r0 [0, 1]) (.seq (.seq (.region f50r1 [0, 1, 10]) (.cond (.t 10) (.seq (.region f50r2 [4]) .ret) .skip)) (.seq (.seq (.region f50r3 [0, 1, 5]) (.block 0 f50L0)) (.seq (.region f50r8 [4]) .ret)))), true⟩

/-! quire/quireref07.in -/
@[simp] def f52r0 : List ROper := [
  ⟨some 4, .mv (.c (.bool false)), none⟩]
@[simp] def f52r1 : List ROper := [
  ⟨some 5, .mv (.c (.int .i64 (.ofNat 0))), none⟩]
@[simp] def f52r2 : List ROper := [
  ⟨some 6, .mv (.t 5), none⟩,
  ⟨some 7, .mv (.t 1), none⟩,
  ⟨some 8, .len .str (.t 7), none⟩,
  ⟨some 9, .bin .lss (.t 6) (.t 8), none⟩]
@[simp] def f52r3 : List ROper := [
  ⟨some 12, .mv (.t 1), none⟩,
  ⟨some 13, .mv (.t 5), none⟩,
  ⟨some 14, .index (.t 12) (.t 13), none⟩,
  ⟨some 15, .mv (.t 0), none⟩,
  ⟨some 16, .bin .eql (.t 14) (.t 15), none⟩]
@[simp] def f52r4 : List ROper := [
  ⟨some 4, .mv (.c (.bool true)), none⟩]
@[simp] def f52r5 : List ROper := [
  ⟨some 10, .mv (.t 5), none⟩,
  ⟨some 11, .bin .add (.t 10) (.c (.int .i64 (.ofNat 1))), none⟩,
  ⟨some 5, .mv (.t 11), none⟩]
def f52B0 : RC := (.seq (.seq (.region f52r2 [0, 1, 5, 9]) (.cond (.t 9) .skip (.exit 0))) (.seq (.block 1 (.seq (.region f52r3 [0, 1, 5, 16]) (.cond (.t 16) (.seq (.region f52r4 [4]) .ret) .skip))) (.region f52r5 [0, 1, 5])))
def f52L0 : RC := .loop [0, 1, 5] f52B0
@[simp] def f52r6 : List ROper := [
  ⟨some 4, .mv (.c (.bool false)), none⟩]
def f52 : RFunc := ⟨[.t 4], (.seq (.region f52r0 [0, 1]) (.seq (.seq (.region f52r1 [0, 1, 5]) (.block 0 f52L0)) (.seq (.region f52r6 [4]) .ret))), true⟩

/-! quire/quireref07.Run -/
@[simp] def f53r0 : List ROper := [
  ⟨some 6, .mv (.c (.int .i64 (.ofNat 0))), none⟩]
@[simp] def f53r1 : List ROper := [
  ⟨some 7, .mv (.c (.int .i64 (.ofNat 0))), none⟩]
@[simp] def f53r2 : List ROper := [
  ⟨some 9, .mv (.t 1), none⟩,
  ⟨some 8, .mv (.t 9), none⟩]
@[simp] def f53r3 : List ROper := [
  ⟨some 10, .mv (.t 8), none⟩,
  ⟨some 11, .mv (.t 2), none⟩,
  ⟨some 12, .bin .lss (.t 10) (.t 11), none⟩]
@[simp] def f53r4 : List ROper := [
  ⟨some 15, .mv (.t 7), none⟩,
  ⟨some 16, .mv (.t 0), none⟩,
  ⟨some 17, .mv (.t 8), none⟩,
  ⟨some 18, .iaddr 6 (.t 16) (.t 17), none⟩,
  ⟨some 19, .faddr 4 (.t 18), none⟩,
  ⟨some 20, .load 1 false (.t 19), none⟩,
  ⟨some 21, .bin .add (.t 15) (.t 20), none⟩,
  ⟨some 7, .mv (.t 21), none⟩]
@[simp] def f53r5 : List ROper := [
  ⟨some 22, .mv (.t 8), none⟩,
  ⟨some 23, .mv (.t 1), none⟩,
  ⟨some 24, .bin .gtr (.t 22) (.t 23), none⟩]
@[simp] def f53r6 : List ROper := [
  ⟨some 25, .mv (.t 7), none⟩,
  ⟨some 26, .mv (.t 0), none⟩,
  ⟨some 27, .mv (.t 8), none⟩,
  ⟨some 28, .iaddr 6 (.t 26) (.t 27), none⟩,
  ⟨some 29, .faddr 5 (.t 28), none⟩,
  ⟨some 30, .load 1 false (.t 29), none⟩,
  ⟨some 31, .bin .add (.t 25) (.t 30), none⟩,
  ⟨some 7, .mv (.t 31), none⟩]
@[simp] def f53r7 : List ROper := [
  ⟨some 13, .mv (.t 8), none⟩,
  ⟨some 14, .bin .add (.t 13) (.c (.int .i64 (.ofNat 1))), none⟩,
  ⟨some 8, .mv (.t 14), none⟩]
def f53B0 : RC := (.seq (.seq (.region f53r3 [0, 1, 2, 7, 8, 12]) (.cond (.t 12) .skip (.exit 0))) (.seq (.block 1 (.seq (.region f53r4 [0, 1, 2, 7, 8]) (.seq (.region f53r5 [0, 1, 2, 7, 8, 24]) (.cond (.t 24) (.region f53r6 [0, 1, 2, 7, 8]) .skip)))) (.region f53r7 [0, 1, 2, 7, 8])))
def f53L0 : RC := .loop [0, 1, 2, 7, 8] f53B0
@[simp] def f53r8 : List ROper := [
  ⟨some 32, .mv (.t 7), none⟩,
  ⟨some 6, .mv (.t 32), none⟩]
def f53 : RFunc := ⟨[.t 6], (.seq (.region f53r0 [0, 1, 2]) (.seq (.region f53r1 [0, 1, 2, 7]) (.seq (.seq (.region f53r2 [0, 1, 2, 7, 8]) (.block 0 f53L0)) (.seq (.region f53r8 [6]) .ret)))), true⟩

/-! quire/cluster.wrong -/
@[simp] def f54r0 : List ROper := [
  ⟨some 2, .mv (.c (.int .i64 (.ofNat 0))), none⟩]
@[simp] def f54r1 : List ROper := [
  ⟨some 5, .mv (.t 0), none⟩,
  ⟨some 6, .len .str (.t 5), none⟩,
  ⟨some 7, .bin .gtr (.t 6) (.c (.int .i64 (.ofNat 4096))), none⟩]
@[simp] def f54r2 : List ROper := [
  ⟨some 2, .mv (.c (.int .i64 (.ofNat 3))), none⟩]
@[simp] def f54r3 : List ROper := [
  ⟨some 8, .mv (.t 0), none⟩,
  ⟨some 9, .s2b (.t 8), none⟩,
  ⟨some 10, .len .slice (.t 9), none⟩,
  ⟨some 11, .mv (.c (.int .i64 (.ofNat 0))), none⟩]
@[simp] def f54r4 : List ROper := [
  ⟨some 12, .bin .lss (.t 11) (.t 10), none⟩]
@[simp] def f54r5 : List ROper := [
  ⟨some 13, .iaddr 1 (.t 9) (.t 11), none⟩,
  ⟨some 14, .load 1 false (.t 13), none⟩,
  ⟨some 4, .mv (.t 14), none⟩]
@[simp] def f54r6 : List ROper := [
  ⟨some 15, .mv (.t 4), none⟩,
  ⟨some 16, .call 68 [(.t 15)], none⟩,
  ⟨some 17, .bin .eql (.t 16) (.c (.int .i64 (.ofNat 0))), none⟩]
@[simp] def f54r7 : List ROper := [
  ⟨some 2, .mv (.c (.int .i64 (.ofNat 4))), none⟩]
@[simp] def f54r8 : List ROper := [
  ⟨some 18, .bin .add (.t 11) (.c (.int .i64 (.ofNat 1))), none⟩,
  ⟨some 11, .mv (.t 18), none⟩]
def f54B0 : RC := (.seq (.region f54r4 [9, 10, 11, 12]) (.seq (.cond (.t 12) .skip (.exit 0)) (.seq (.block 1 (.seq (.region f54r5 [4, 9, 10, 11]) (.seq (.region f54r6 [9, 10, 11, 17]) (.cond (.t 17) (.seq (.region f54r7 [2]) .ret) .skip)))) (.region f54r8 [9, 10, 11]))))
def f54L0 : RC := .loop [9, 10, 11] f54B0
@[simp] def f54r9 : List ROper := [
  ⟨some 2, .mv (.c (.int .i64 (.ofNat 0))), none⟩]
def f54 : RFunc := ⟨[.t 2], (.seq (.region f54r0 [0]) (.seq (.seq (.region f54r1 [0, 7]) (.cond (.t 7) (.seq (.region f54r2 [2]) .ret) .skip)) (.seq (.seq (.region f54r3 [9, 10, 11]) (.block 0 f54L0)) (.seq (.region f54r9 [2]) .ret)))), true⟩

/-! quire/cluster.each -/
@[simp] def f55r0 : List ROper := [
  ⟨some 1, .box 1 (.t 0), none⟩,
  ⟨some 2, .mv (.c .nilfn), none⟩]
@[simp] def f55r1 : List ROper := [
  ⟨some 3, .mkfn 69 [] [(.t 1)], none⟩,
  ⟨some 2, .mv (.t 3), none⟩]
def f55 : RFunc := ⟨[.t 2], (.seq (.region f55r0 [1]) (.seq (.region f55r1 [2]) .ret)), false⟩

/-! quire/metric.looks$1 -/
@[simp] def f56r0 : List ROper := [
  ⟨some 4, .alloc [(.int .i64 (.ofNat 0)), (.int .i64 (.ofNat 0)), (.int .i64 (.ofNat 0))], none⟩]
@[simp] def f56r1 : List ROper := [
  ⟨some 5, .load 1 false (.t 1), none⟩,
  ⟨some 6, .len .slice (.t 5), none⟩,
  ⟨some 7, .bin .gtr (.t 6) (.c (.int .i64 (.ofNat 1))), none⟩,
  ⟨some 8, .mv (.t 7), none⟩,
  ⟨some 9, .mv (.t 0), some (8, true)⟩,
  ⟨some 10, .load 1 false (.t 2), some (8, true)⟩,
  ⟨some 11, .bin .geq (.t 9) (.t 10), some (8, true)⟩,
  ⟨some 12, .pick (.t 8) (.t 11) (.c (.bool false)), none⟩]
@[simp] def f56r2 : List ROper := [
  ⟨some 13, .load 1 false (.t 1), none⟩,
  ⟨some 14, .slice false 4 (.t 13) (some (.c (.int .i64 (.ofNat 1)))) none none, none⟩,
  ⟨none, .store 1 (.t 1) (.t 14), none⟩]
@[simp] def f56r3 : List ROper := [
  ⟨some 15, .load 1 false (.t 2), none⟩,
  ⟨some 16, .load 1 false (.t 1), none⟩,
  ⟨some 17, .iaddr 4 (.t 16) (.c (.int .i64 (.ofNat 0))), none⟩,
  ⟨some 18, .faddr 0 (.t 17), none⟩,
  ⟨some 19, .load 1 false (.t 18), none⟩,
  ⟨some 20, .bin .add (.t 15) (.t 19), none⟩,
  ⟨none, .store 1 (.t 2) (.t 20), none⟩]
def f56B0 : RC := (.seq (.seq (.region f56r1 [0, 1, 2, 4, 12]) (.cond (.t 12) .skip (.exit 0))) (.block 1 (.seq (.region f56r2 [0, 1, 2, 4]) (.dregion f56r3 [] [] [0, 1, 2, 4]))))
def f56L0 : RC := .loop [0, 1, 2, 4] f56B0
@[simp] def f56r4 : List ROper := [
  ⟨some 21, .load 1 false (.t 1), none⟩,
  ⟨some 22, .iaddr 4 (.t 21) (.c (.int .i64 (.ofNat 0))), none⟩,
  ⟨some 23, .faddr 1 (.t 22), none⟩,
  ⟨some 24, .load 3 true (.t 23), none⟩,
  ⟨none, .store 3 (.t 4) (.t 24), none⟩]
def f56 : RFunc := ⟨[.cell 4 3 true], (.seq (.region f56r0 [0, 1, 2, 4]) (.seq (.block 0 f56L0) (.seq (.region f56r4 [4]) .ret))), false⟩

/-! quire/metric.paired -/
@[simp] def f57r0 : List ROper := [
  ⟨some 6, .mv (.c (.bool false)), none⟩]
@[simp] def f57r1 : List ROper := [
  ⟨some 7, .mv (.c (.int .i64 (.ofNat 0))), none⟩]
@[simp] def f57r2 : List ROper := [
  ⟨some 8, .mv (.t 7), none⟩,
  ⟨some 9, .bin .add (.t 8) (.c (.int .i64 (.ofNat 1))), none⟩,
  ⟨some 10, .mv (.t 0), none⟩,
  ⟨some 11, .len .str (.t 10), none⟩,
  ⟨some 12, .bin .lss (.t 9) (.t 11), none⟩]
@[simp] def f57r3 : List ROper := [
  ⟨some 15, .mv (.t 0), none⟩,
  ⟨some 16, .mv (.t 7), none⟩,
  ⟨some 17, .index (.t 15) (.t 16), none⟩,
  ⟨some 18, .mv (.t 1), none⟩,
  ⟨some 19, .bin .eql (.t 17) (.t 18), none⟩,
  ⟨some 20, .mv (.t 19), none⟩,
  ⟨some 21, .mv (.t 0), some (20, true)⟩,
  ⟨some 22, .mv (.t 7), some (20, true)⟩,
  ⟨some 23, .bin .add (.t 22) (.c (.int .i64 (.ofNat 1))), some (20, true)⟩,
  ⟨some 24, .index (.t 21) (.t 23), some (20, true)⟩,
  ⟨some 25, .mv (.t 2), some (20, true)⟩,
  ⟨some 26, .bin .eql (.t 24) (.t 25), some (20, true)⟩,
  ⟨some 27, .pick (.t 20) (.t 26) (.c (.bool false)), none⟩]
@[simp] def f57r4 : List ROper := [
  ⟨some 6, .mv (.c (.bool true)), none⟩]
@[simp] def f57r5 : List ROper := [
  ⟨some 13, .mv (.t 7), none⟩,
  ⟨some 14, .bin .add (.t 13) (.c (.int .i64 (.ofNat 3))), none⟩,
  ⟨some 7, .mv (.t 14), none⟩]
def f57B0 : RC := (.seq (.seq (.region f57r2 [0, 1, 2, 7, 12]) (.cond (.t 12) .skip (.exit 0))) (.seq (.block 1 (.seq (.region f57r3 [0, 1, 2, 7, 27]) (.cond (.t 27) (.seq (.region f57r4 [6]) .ret) .skip))) (.region f57r5 [0, 1, 2, 7])))
def f57L0 : RC := .loop [0, 1, 2, 7] f57B0
@[simp] def f57r6 : List ROper := [
  ⟨some 6, .mv (.c (.bool false)), none⟩]
def f57 : RFunc := ⟨[.t 6], (.seq (.region f57r0 [0, 1, 2]) (.seq (.seq (.region f57r1 [0, 1, 2, 7]) (.block 0 f57L0)) (.seq (.region f57r6 [6]) .ret))), true⟩

/-! quire/quireref06.Kind -/
@[simp] def f58r0 : List ROper := [
  ⟨some 2, .mv (.c (.int .i64 (.ofNat 0))), none⟩]
@[simp] def f58r1 : List ROper := [
  ⟨some 4, .mv (.t 0), none⟩,
  ⟨some 5, .bin .eql (.t 4) (.c (.int .u8 (.ofNat 32))), none⟩,
  ⟨some 3, .mv (.t 5), none⟩]
@[simp] def f58r2 : List ROper := [
  ⟨some 2, .mv (.c (.int .i64 (.ofNat 3))), none⟩]
@[simp] def f58r3 : List ROper := [
  ⟨some 7, .mv (.t 0), none⟩,
  ⟨some 8, .bin .eql (.t 7) (.c (.int .u8 (.ofNat 9))), none⟩,
  ⟨some 6, .mv (.t 8), none⟩]
@[simp] def f58r4 : List ROper := [
  ⟨some 2, .mv (.c (.int .i64 (.ofNat 4))), none⟩]
@[simp] def f58r5 : List ROper := [
  ⟨some 10, .mv (.t 0), none⟩,
  ⟨some 11, .bin .eql (.t 10) (.c (.int .u8 (.ofNat 31))), none⟩,
  ⟨some 9, .mv (.t 11), none⟩]
@[simp] def f58r6 : List ROper := [
  ⟨some 2, .mv (.c (.int .i64 (.ofNat 5))), none⟩]
@[simp] def f58r7 : List ROper := [
  ⟨some 13, .mv (.t 0), none⟩,
  ⟨some 14, .bin .eql (.t 13) (.c (.int .u8 (.ofNat 1))), none⟩,
  ⟨some 12, .mv (.t 14), none⟩]
@[simp] def f58r8 : List ROper := [
  ⟨some 2, .mv (.c (.int .i64 (.ofNat 6))), none⟩]
@[simp] def f58r9 : List ROper := [
  ⟨some 16, .mv (.t 0), none⟩,
  ⟨some 17, .bin .eql (.t 16) (.c (.int .u8 (.ofNat 2))), none⟩,
  ⟨some 15, .mv (.t 17), none⟩]
@[simp] def f58r10 : List ROper := [
  ⟨some 2, .mv (.c (.int .i64 (.ofNat 7))), none⟩]
@[simp] def f58r11 : List ROper := [
  ⟨some 19, .mv (.t 0), none⟩,
  ⟨some 20, .bin .eql (.t 19) (.c (.int .u8 (.ofNat 3))), none⟩,
  ⟨some 18, .mv (.t 20), none⟩]
@[simp] def f58r12 : List ROper := [
  ⟨some 2, .mv (.c (.int .i64 (.ofNat 8))), none⟩]
@[simp] def f58r13 : List ROper := [
  ⟨some 22, .mv (.t 0), none⟩,
  ⟨some 23, .call 71 [(.t 22)], none⟩,
  ⟨some 21, .mv (.t 23), none⟩]
@[simp] def f58r14 : List ROper := [
  ⟨some 2, .mv (.c (.int .i64 (.ofNat 1))), none⟩]
@[simp] def f58r15 : List ROper := [
  ⟨some 25, .mv (.t 0), none⟩,
  ⟨some 26, .bin .gtr (.t 25) (.c (.int .u8 (.ofNat 32))), none⟩,
  ⟨some 27, .mv (.t 26), none⟩,
  ⟨some 28, .mv (.t 0), some (27, true)⟩,
  ⟨some 29, .bin .lss (.t 28) (.c (.int .u8 (.ofNat 127))), some (27, true)⟩,
  ⟨some 30, .pick (.t 27) (.t 29) (.c (.bool false)), none⟩,
  ⟨some 24, .mv (.t 30), none⟩]
@[simp] def f58r16 : List ROper := [
  ⟨some 2, .mv (.c (.int .i64 (.ofNat 2))), none⟩]
@[simp] def f58r17 : List ROper := [
  ⟨some 2, .mv (.c (.int .i64 (.ofNat 0))), none⟩]
def f58 : RFunc := ⟨[.t 2], (.seq (.region f58r0 [0]) (.seq (.block 0 (.seq (.region f58r1 [0, 3]) (.cond (.t 3) (.seq (.region f58r2 [2]) .ret) (.seq (.region f58r3 [0, 6]) (.cond (.t 6) (.seq (.region f58r4 [2]) .ret) (.seq (.region f58r5 [0, 9]) (.cond (.t 9) (.seq (.region f58r6 [2]) .ret) (.seq (.region f58r7 [0, 12]) (.cond (.t 12) (.seq (.region f58r8 [2]) .ret) (.seq (.region f58r9 [0, 15]) (.cond (.t 15) (.seq (.region f58r10 [2]) .ret) (.seq (.region f58r11 [0, 18]) (.cond (.t 18) (.seq (.region f58r12 [2]) .ret) (.seq (.region f58r13 [0, 21]) (.cond (.t 21) (.seq (.region f58r14 [2]) .ret) (.seq (.region f58r15 [24]) (.cond (.t 24) (.seq (.region f58r16 [2]) .ret) .skip))))))))))))))))) (.seq (.region f58r17 [2]) .ret))), true⟩

/-! quire/quireref06.accent -/
@[simp] def f59r0 : List ROper := [
  ⟨some 2, .mv (.c (.bool false)), none⟩]
@[simp] def f59r1 : List ROper := [
  ⟨some 3, .mv (.t 0), none⟩,
  ⟨some 4, .bin .eql (.t 3) (.c (.int .u8 (.ofNat 94))), none⟩,
  ⟨some 5, .mv (.t 4), none⟩,
  ⟨some 6, .mv (.t 0), some (5, false)⟩,
  ⟨some 7, .bin .eql (.t 6) (.c (.int .u8 (.ofNat 96))), some (5, false)⟩,
  ⟨some 8, .pick (.t 5) (.c (.bool true)) (.t 7), none⟩,
  ⟨some 9, .mv (.t 8), none⟩,
  ⟨some 10, .mv (.t 0), some (9, false)⟩,
  ⟨some 11, .bin .eql (.t 10) (.c (.int .u8 (.ofNat 126))), some (9, false)⟩,
  ⟨some 12, .pick (.t 9) (.c (.bool true)) (.t 11), none⟩,
  ⟨some 2, .mv (.t 12), none⟩]
def f59 : RFunc := ⟨[.t 2], (.seq (.region f59r0 [0]) (.seq (.region f59r1 [2]) .ret)), true⟩

/-! quire/quireref07.pair -/
@[simp] def f60r0 : List ROper := [
  ⟨some 4, .mv (.c (.bool false)), none⟩]
@[simp] def f60r1 : List ROper := [
  ⟨some 5, .mv (.c (.int .i64 (.ofNat 0))), none⟩]
@[simp] def f60r2 : List ROper := [
  ⟨some 6, .mv (.t 5), none⟩,
  ⟨some 7, .mv (.t 0), none⟩,
  ⟨some 8, .len .slice (.t 7), none⟩,
  ⟨some 9, .bin .lss (.t 6) (.t 8), none⟩]
@[simp] def f60r3 : List ROper := [
  ⟨some 12, .mv (.t 0), none⟩,
  ⟨some 13, .mv (.t 5), none⟩,
  ⟨some 14, .iaddr 1 (.t 12) (.t 13), none⟩,
  ⟨some 15, .load 1 false (.t 14), none⟩,
  ⟨some 16, .mv (.t 1), none⟩,
  ⟨some 17, .bin .eql (.t 15) (.t 16), none⟩]
@[simp] def f60r4 : List ROper := [
  ⟨some 4, .mv (.c (.bool true)), none⟩]
@[simp] def f60r5 : List ROper := [
  ⟨some 10, .mv (.t 5), none⟩,
  ⟨some 11, .bin .add (.t 10) (.c (.int .i64 (.ofNat 1))), none⟩,
  ⟨some 5, .mv (.t 11), none⟩]
def f60B0 : RC := (.seq (.seq (.region f60r2 [0, 1, 5, 9]) (.cond (.t 9) .skip (.exit 0))) (.seq (.block 1 (.seq (.region f60r3 [0, 1, 5, 17]) (.cond (.t 17) (.seq (.region f60r4 [4]) .ret) .skip))) (.region f60r5 [0, 1, 5])))
def f60L0 : RC := .loop [0, 1, 5] f60B0
@[simp] def f60r6 : List ROper := [
  ⟨some 4, .mv (.c (.bool false)), none⟩]
def f60 : RFunc := ⟨[.t 4], (.seq (.region f60r0 [0, 1]) (.seq (.seq (.region f60r1 [0, 1, 5]) (.block 0 f60L0)) (.seq (.region f60r6 [4]) .ret))), true⟩

/-! internal/stringslite.IndexByte -/
@[simp] def f61r0 : List ROper := [
  ⟨some 4, .mv (.c (.int .i64 (.ofNat 0))), none⟩]
@[simp] def f61r1 : List ROper := [
  ⟨some 5, .mv (.t 0), none⟩,
  ⟨some 6, .mv (.t 1), none⟩,
  ⟨some 7, .call 72 [(.t 5), (.t 6)], none⟩,
  ⟨some 4, .mv (.t 7), none⟩]
def f61 : RFunc := ⟨[.t 4], (.seq (.region f61r0 [0, 1]) (.seq (.region f61r1 [4]) .ret)), true⟩

/-! quire/metric.look -/
@[simp] def f62r0 : List ROper := [
  ⟨some 1, .box 3 (.t 0), none⟩,
  ⟨some 2, .mv (.c (.bool false)), none⟩]
@[simp] def f62r1 : List ROper := [
  ⟨some 3, .faddr 0 (.t 1), none⟩,
  ⟨some 4, .load 1 false (.t 3), none⟩,
  ⟨some 5, .bin .geq (.t 4) (.c (.int .i64 (.ofNat 0))), none⟩,
  ⟨some 6, .mv (.t 5), none⟩,
  ⟨some 7, .faddr 0 (.t 1), some (6, true)⟩,
  ⟨some 8, .load 1 false (.t 7), some (6, true)⟩,
  ⟨some 9, .bin .leq (.t 8) (.c (.int .i64 (.ofNat 64))), some (6, true)⟩,
  ⟨some 10, .pick (.t 6) (.t 9) (.c (.bool false)), none⟩,
  ⟨some 11, .mv (.t 10), none⟩,
  ⟨some 12, .faddr 1 (.t 1), some (11, true)⟩,
  ⟨some 13, .load 1 false (.t 12), some (11, true)⟩,
  ⟨some 14, .bin .geq (.t 13) (.c (.int .i64 (.ofNat 0))), some (11, true)⟩,
  ⟨some 15, .pick (.t 11) (.t 14) (.c (.bool false)), none⟩,
  ⟨some 16, .mv (.t 15), none⟩,
  ⟨some 17, .faddr 1 (.t 1), some (16, true)⟩,
  ⟨some 18, .load 1 false (.t 17), some (16, true)⟩,
  ⟨some 19, .bin .leq (.t 18) (.c (.int .i64 (.ofNat 15))), some (16, true)⟩,
  ⟨some 20, .pick (.t 16) (.t 19) (.c (.bool false)), none⟩,
  ⟨some 21, .mv (.t 20), none⟩,
  ⟨some 22, .faddr 2 (.t 1), some (21, true)⟩,
  ⟨some 23, .load 1 false (.t 22), some (21, true)⟩,
  ⟨some 24, .bin .eql (.t 23) (.c (.int .i64 (.ofNat 0))), some (21, true)⟩,
  ⟨some 25, .mv (.t 24), some (21, true)⟩,
  ⟨some 26, .faddr 2 (.t 1), some (25, false)⟩,
  ⟨some 27, .load 1 false (.t 26), some (25, false)⟩,
  ⟨some 28, .bin .eql (.t 27) (.c (.int .i64 (.ofNat 1))), some (25, false)⟩,
  ⟨some 29, .pick (.t 25) (.c (.bool true)) (.t 28), some (21, true)⟩,
  ⟨some 30, .pick (.t 21) (.t 29) (.c (.bool false)), none⟩,
  ⟨some 2, .mv (.t 30), none⟩]
def f62 : RFunc := ⟨[.t 2], (.seq (.region f62r0 [1]) (.seq (.region f62r1 [2]) .ret)), true⟩

/-! unicode/utf8.RuneCountInString -/
@[simp] def f63r0 : List ROper := [
  ⟨some 2, .mv (.c (.int .i64 (.ofNat 0))), none⟩]
@[simp] def f63r1 : List ROper := [
  ⟨some 3, .mv (.t 0), none⟩,
  ⟨some 4, .fail, none⟩]
@[simp] def f63r2 : List ROper := [
  ⟨some 5, .fail, none⟩,
  ⟨some 6, .extract (.t 5) 0, none⟩]
@[simp] def f63r3 : List ROper := [
  ⟨some 7, .mv (.t 2), none⟩,
  ⟨some 8, .bin .add (.t 7) (.c (.int .i64 (.ofNat 1))), none⟩,
  ⟨some 2, .mv (.t 8), none⟩]
def f63B0 : RC := (.seq (.region f63r2 [2, 6]) (.seq (.cond (.t 6) .skip (.exit 0)) (.block 1 (.region f63r3 [2]))))
def f63L0 : RC := .loop [2] f63B0
@[simp] def f63r4 : List ROper := [
  ⟨some 9, .mv (.t 2), none⟩,
  ⟨some 2, .mv (.t 9), none⟩]
def f63 : RFunc := ⟨[.t 2], (.seq (.region f63r0 [0, 2]) (.seq (.seq (.region f63r1 [2]) (.block 0 f63L0)) (.seq (.region f63r4 [2]) .ret))), true⟩

/-! strings.Index -/
@[simp] def f65r0 : List ROper := [
  ⟨some 4, .mv (.c (.int .i64 (.ofNat 0))), none⟩]
@[simp] def f65r1 : List ROper := [
  ⟨some 5, .mv (.t 0), none⟩,
  ⟨some 6, .mv (.t 1), none⟩,
  ⟨some 7, .call 73 [(.t 5), (.t 6)], none⟩,
  ⟨some 4, .mv (.t 7), none⟩]
def f65 : RFunc := ⟨[.t 4], (.seq (.region f65r0 [0, 1]) (.seq (.region f65r1 [4]) .ret)), true⟩

/-! quire/quireref07.from -/
@[simp] def f66r0 : List ROper := [
  ⟨some 6, .mv (.c (.bool false)), none⟩]
@[simp] def f66r1 : List ROper := [
  ⟨some 7, .mv (.t 0), none⟩,
  ⟨some 8, .mv (.t 1), none⟩,
  ⟨some 9, .bin .geq (.t 7) (.t 8), none⟩,
  ⟨some 10, .mv (.t 9), none⟩,
  ⟨some 11, .mv (.t 0), some (10, true)⟩,
  ⟨some 12, .mv (.t 2), some (10, true)⟩,
  ⟨some 13, .bin .leq (.t 11) (.t 12), some (10, true)⟩,
  ⟨some 14, .pick (.t 10) (.t 13) (.c (.bool false)), none⟩,
  ⟨some 6, .mv (.t 14), none⟩]
def f66 : RFunc := ⟨[.t 6], (.seq (.region f66r0 [0, 1, 2]) (.seq (.region f66r1 [6]) .ret)), true⟩

/-! quire/quireref07.bit -/
@[simp] def f67r0 : List ROper := [
  ⟨some 2, .mv (.c (.bool false)), none⟩]
@[simp] def f67r1 : List ROper := [
  ⟨some 3, .mv (.t 0), none⟩,
  ⟨some 4, .bin .eql (.t 3) (.c (.int .i64 (.ofNat 0))), none⟩,
  ⟨some 5, .mv (.t 4), none⟩,
  ⟨some 6, .mv (.t 0), some (5, false)⟩,
  ⟨some 7, .bin .eql (.t 6) (.c (.int .i64 (.ofNat 1))), some (5, false)⟩,
  ⟨some 8, .pick (.t 5) (.c (.bool true)) (.t 7), none⟩,
  ⟨some 2, .mv (.t 8), none⟩]
def f67 : RFunc := ⟨[.t 2], (.seq (.region f67r0 [0]) (.seq (.region f67r1 [2]) .ret)), true⟩

/-! quire/cluster.kind -/
@[simp] def f68r0 : List ROper := [
  ⟨some 2, .mv (.c (.int .i64 (.ofNat 0))), none⟩]
@[simp] def f68r1 : List ROper := [
  ⟨some 4, .mv (.t 0), none⟩,
  ⟨some 5, .call 74 [(.t 4)], none⟩,
  ⟨some 3, .mv (.t 5), none⟩]
@[simp] def f68r2 : List ROper := [
  ⟨some 2, .mv (.c (.int .i64 (.ofNat 1))), none⟩]
@[simp] def f68r3 : List ROper := [
  ⟨some 7, .mv (.t 0), none⟩,
  ⟨some 8, .bin .eql (.t 7) (.c (.int .u8 (.ofNat 32))), none⟩,
  ⟨some 6, .mv (.t 8), none⟩]
@[simp] def f68r4 : List ROper := [
  ⟨some 2, .mv (.c (.int .i64 (.ofNat 3))), none⟩]
@[simp] def f68r5 : List ROper := [
  ⟨some 10, .mv (.t 0), none⟩,
  ⟨some 11, .bin .eql (.t 10) (.c (.int .u8 (.ofNat 9))), none⟩,
  ⟨some 9, .mv (.t 11), none⟩]
@[simp] def f68r6 : List ROper := [
  ⟨some 2, .mv (.c (.int .i64 (.ofNat 4))), none⟩]
@[simp] def f68r7 : List ROper := [
  ⟨some 13, .mv (.t 0), none⟩,
  ⟨some 14, .bin .eql (.t 13) (.c (.int .u8 (.ofNat 31))), none⟩,
  ⟨some 12, .mv (.t 14), none⟩]
@[simp] def f68r8 : List ROper := [
  ⟨some 2, .mv (.c (.int .i64 (.ofNat 5))), none⟩]
@[simp] def f68r9 : List ROper := [
  ⟨some 16, .mv (.t 0), none⟩,
  ⟨some 17, .bin .eql (.t 16) (.c (.int .u8 (.ofNat 1))), none⟩,
  ⟨some 15, .mv (.t 17), none⟩]
@[simp] def f68r10 : List ROper := [
  ⟨some 2, .mv (.c (.int .i64 (.ofNat 6))), none⟩]
@[simp] def f68r11 : List ROper := [
  ⟨some 19, .mv (.t 0), none⟩,
  ⟨some 20, .bin .eql (.t 19) (.c (.int .u8 (.ofNat 2))), none⟩,
  ⟨some 18, .mv (.t 20), none⟩]
@[simp] def f68r12 : List ROper := [
  ⟨some 2, .mv (.c (.int .i64 (.ofNat 7))), none⟩]
@[simp] def f68r13 : List ROper := [
  ⟨some 22, .mv (.t 0), none⟩,
  ⟨some 23, .bin .eql (.t 22) (.c (.int .u8 (.ofNat 3))), none⟩,
  ⟨some 21, .mv (.t 23), none⟩]
@[simp] def f68r14 : List ROper := [
  ⟨some 2, .mv (.c (.int .i64 (.ofNat 8))), none⟩]
@[simp] def f68r15 : List ROper := [
  ⟨some 25, .mv (.t 0), none⟩,
  ⟨some 26, .bin .gtr (.t 25) (.c (.int .u8 (.ofNat 32))), none⟩,
  ⟨some 27, .mv (.t 26), none⟩,
  ⟨some 28, .mv (.t 0), some (27, true)⟩,
  ⟨some 29, .bin .leq (.t 28) (.c (.int .u8 (.ofNat 126))), some (27, true)⟩,
  ⟨some 30, .pick (.t 27) (.t 29) (.c (.bool false)), none⟩,
  ⟨some 24, .mv (.t 30), none⟩]
@[simp] def f68r16 : List ROper := [
  ⟨some 2, .mv (.c (.int .i64 (.ofNat 2))), none⟩]
@[simp] def f68r17 : List ROper := [
  ⟨some 2, .mv (.c (.int .i64 (.ofNat 0))), none⟩]
def f68 : RFunc := ⟨[.t 2], (.seq (.region f68r0 [0]) (.seq (.block 0 (.seq (.region f68r1 [0, 3]) (.cond (.t 3) (.seq (.region f68r2 [2]) .ret) (.seq (.region f68r3 [0, 6]) (.cond (.t 6) (.seq (.region f68r4 [2]) .ret) (.seq (.region f68r5 [0, 9]) (.cond (.t 9) (.seq (.region f68r6 [2]) .ret) (.seq (.region f68r7 [0, 12]) (.cond (.t 12) (.seq (.region f68r8 [2]) .ret) (.seq (.region f68r9 [0, 15]) (.cond (.t 15) (.seq (.region f68r10 [2]) .ret) (.seq (.region f68r11 [0, 18]) (.cond (.t 18) (.seq (.region f68r12 [2]) .ret) (.seq (.region f68r13 [0, 21]) (.cond (.t 21) (.seq (.region f68r14 [2]) .ret) (.seq (.region f68r15 [24]) (.cond (.t 24) (.seq (.region f68r16 [2]) .ret) .skip))))))))))))))))) (.seq (.region f68r17 [2]) .ret))), true⟩

/-! quire/cluster.each$1 -/
@[simp] def f69r0 : List ROper := [
  ⟨some 3, .mv (.c (.int .i64 (.ofNat 0))), none⟩]
@[simp] def f69r1 : List ROper := [
  ⟨some 5, .mv (.t 3), none⟩,
  ⟨some 6, .load 1 false (.t 1), none⟩,
  ⟨some 7, .len .str (.t 6), none⟩,
  ⟨some 8, .bin .lss (.t 5) (.t 7), none⟩]
@[simp] def f69r2 : List ROper := [
  ⟨some 9, .mv (.t 3), none⟩,
  ⟨some 10, .mv (.t 3), none⟩,
  ⟨some 11, .bin .add (.t 10) (.c (.int .i64 (.ofNat 1))), none⟩,
  ⟨some 12, .load 1 false (.t 1), none⟩,
  ⟨some 13, .mv (.t 3), none⟩,
  ⟨some 14, .index (.t 12) (.t 13), none⟩,
  ⟨some 15, .call 68 [(.t 14)], none⟩,
  ⟨some 16, .build [(.int .i64 (.ofNat 0)), (.int .i64 (.ofNat 0)), (.int .i64 (.ofNat 0))] [(0, 1, (.t 9)), (1, 1, (.t 11)), (2, 1, (.t 15))], none⟩,
  ⟨some 4, .alloc [(.int .i64 (.ofNat 0)), (.int .i64 (.ofNat 0)), (.int .i64 (.ofNat 0))], none⟩,
  ⟨none, .store 3 (.t 4) (.t 16), none⟩]
@[simp] def f69r3 : List ROper := [
  ⟨some 17, .faddr 2 (.t 4), none⟩,
  ⟨some 18, .load 1 false (.t 17), none⟩,
  ⟨some 19, .bin .eql (.t 18) (.c (.int .i64 (.ofNat 1))), none⟩,
  ⟨some 20, .mv (.t 19), none⟩,
  ⟨some 21, .faddr 1 (.t 4), some (20, true)⟩,
  ⟨some 22, .load 1 false (.t 21), some (20, true)⟩,
  ⟨some 23, .load 1 false (.t 1), some (20, true)⟩,
  ⟨some 24, .len .str (.t 23), some (20, true)⟩,
  ⟨some 25, .bin .lss (.t 22) (.t 24), some (20, true)⟩,
  ⟨some 26, .pick (.t 20) (.t 25) (.c (.bool false)), none⟩,
  ⟨some 27, .mv (.t 26), none⟩,
  ⟨some 28, .faddr 1 (.t 4), some (27, true)⟩,
  ⟨some 29, .load 1 false (.t 28), some (27, true)⟩,
  ⟨some 30, .mv (.t 3), some (27, true)⟩,
  ⟨some 31, .bin .add (.t 30) (.c (.int .i64 (.ofNat 3))), some (27, true)⟩,
  ⟨some 32, .bin .lss (.t 29) (.t 31), some (27, true)⟩,
  ⟨some 33, .pick (.t 27) (.t 32) (.c (.bool false)), none⟩,
  ⟨some 34, .mv (.t 33), none⟩,
  ⟨some 35, .load 1 false (.t 1), some (34, true)⟩,
  ⟨some 36, .faddr 1 (.t 4), some (34, true)⟩,
  ⟨some 37, .load 1 false (.t 36), some (34, true)⟩,
  ⟨some 38, .index (.t 35) (.t 37), some (34, true)⟩,
  ⟨some 39, .call 70 [(.t 38)], some (34, true)⟩,
  ⟨some 40, .pick (.t 34) (.t 39) (.c (.bool false)), none⟩]
@[simp] def f69r4 : List ROper := [
  ⟨some 41, .faddr 1 (.t 4), none⟩,
  ⟨some 42, .load 1 false (.t 41), none⟩,
  ⟨some 43, .bin .add (.t 42) (.c (.int .i64 (.ofNat 1))), none⟩,
  ⟨some 44, .faddr 1 (.t 4), none⟩,
  ⟨none, .store 1 (.t 44) (.t 43), none⟩]
def f69B0 : RC := (.seq (.seq (.region f69r3 [0, 1, 3, 4, 40]) (.cond (.t 40) .skip (.exit 2))) (.block 3 (.region f69r4 [0, 1, 3, 4])))
def f69L0 : RC := .loop [0, 1, 3, 4] f69B0
@[simp] def f69r5 : List ROper := [
  ⟨some 45, .mv (.t 0), none⟩,
  ⟨some 46, .load 3 true (.t 4), none⟩,
  ⟨some 47, .callv (.t 45) [(.t 46)], none⟩,
  ⟨some 48, .un .not (.t 47), none⟩]
@[simp] def f69r6 : List ROper := [
  ⟨some 49, .faddr 1 (.t 4), none⟩,
  ⟨some 50, .load 1 false (.t 49), none⟩,
  ⟨some 3, .mv (.t 50), none⟩]
def f69B1 : RC := (.seq (.seq (.region f69r1 [0, 1, 3, 8]) (.cond (.t 8) .skip (.exit 0))) (.block 1 (.seq (.region f69r2 [0, 1, 3, 4]) (.seq (.block 2 f69L0) (.seq (.seq (.region f69r5 [0, 1, 4, 48]) (.cond (.t 48) .ret .skip)) (.region f69r6 [0, 1, 3]))))))
def f69L1 : RC := .loop [0, 1, 3] f69B1
def f69 : RFunc := ⟨[], (.seq (.region f69r0 [0, 1, 3]) (.block 0 f69L1)), false⟩

/-! quire/cluster.accent -/
@[simp] def f70r0 : List ROper := [
  ⟨some 2, .mv (.c (.bool false)), none⟩]
@[simp] def f70r1 : List ROper := [
  ⟨some 3, .mv (.t 0), none⟩,
  ⟨some 4, .bin .eql (.t 3) (.c (.int .u8 (.ofNat 94))), none⟩,
  ⟨some 5, .mv (.t 4), none⟩,
  ⟨some 6, .mv (.t 0), some (5, false)⟩,
  ⟨some 7, .bin .eql (.t 6) (.c (.int .u8 (.ofNat 96))), some (5, false)⟩,
  ⟨some 8, .pick (.t 5) (.c (.bool true)) (.t 7), none⟩,
  ⟨some 9, .mv (.t 8), none⟩,
  ⟨some 10, .mv (.t 0), some (9, false)⟩,
  ⟨some 11, .bin .eql (.t 10) (.c (.int .u8 (.ofNat 126))), some (9, false)⟩,
  ⟨some 12, .pick (.t 9) (.c (.bool true)) (.t 11), none⟩,
  ⟨some 2, .mv (.t 12), none⟩]
def f70 : RFunc := ⟨[.t 2], (.seq (.region f70r0 [0]) (.seq (.region f70r1 [2]) .ret)), true⟩

/-! quire/quireref06.letter -/
@[simp] def f71r0 : List ROper := [
  ⟨some 2, .mv (.c (.bool false)), none⟩]
@[simp] def f71r1 : List ROper := [
  ⟨some 3, .mv (.t 0), none⟩,
  ⟨some 4, .bin .geq (.t 3) (.c (.int .u8 (.ofNat 97))), none⟩,
  ⟨some 5, .mv (.t 4), none⟩,
  ⟨some 6, .mv (.t 0), some (5, true)⟩,
  ⟨some 7, .bin .leq (.t 6) (.c (.int .u8 (.ofNat 122))), some (5, true)⟩,
  ⟨some 8, .pick (.t 5) (.t 7) (.c (.bool false)), none⟩,
  ⟨some 9, .mv (.t 8), none⟩,
  ⟨some 10, .mv (.t 0), some (9, false)⟩,
  ⟨some 11, .bin .geq (.t 10) (.c (.int .u8 (.ofNat 65))), some (9, false)⟩,
  ⟨some 12, .mv (.t 11), some (9, false)⟩,
  ⟨some 13, .mv (.t 0), some (12, true)⟩,
  ⟨some 14, .bin .leq (.t 13) (.c (.int .u8 (.ofNat 90))), some (12, true)⟩,
  ⟨some 15, .pick (.t 12) (.t 14) (.c (.bool false)), some (9, false)⟩,
  ⟨some 16, .pick (.t 9) (.c (.bool true)) (.t 15), none⟩,
  ⟨some 2, .mv (.t 16), none⟩]
def f71 : RFunc := ⟨[.t 2], (.seq (.region f71r0 [0]) (.seq (.region f71r1 [2]) .ret)), true⟩

/-! internal/stringslite.Index -/
@[simp] def f73r0 : List ROper := [
  ⟨some 4, .mv (.c (.int .i64 (.ofNat 0))), none⟩]
@[simp] def f73r1 : List ROper := [
  ⟨some 14, .mv (.t 1), none⟩,
  ⟨some 15, .len .str (.t 14), none⟩,
  ⟨some 5, .mv (.t 15), none⟩]
@[simp] def f73r2 : List ROper := [
  ⟨some 17, .mv (.t 5), none⟩,
  ⟨some 18, .bin .eql (.t 17) (.c (.int .i64 (.ofNat 0))), none⟩,
  ⟨some 19, .mv (.t 18), none⟩,
  ⟨some 20, .mv (.t 1), some (19, false)⟩,
  ⟨some 21, .mv (.t 0), some (19, false)⟩,
  ⟨some 22, .bin .eql (.t 20) (.t 21), some (19, false)⟩,
  ⟨some 23, .pick (.t 19) (.c (.bool true)) (.t 22), none⟩,
  ⟨some 16, .mv (.t 23), none⟩]
@[simp] def f73r3 : List ROper := [
  ⟨some 4, .mv (.c (.int .i64 (.ofNat 0))), none⟩]
@[simp] def f73r4 : List ROper := [
  ⟨some 25, .mv (.t 5), none⟩,
  ⟨some 26, .bin .eql (.t 25) (.c (.int .i64 (.ofNat 1))), none⟩,
  ⟨some 24, .mv (.t 26), none⟩]
@[simp] def f73r5 : List ROper := [
  ⟨some 27, .mv (.t 0), none⟩,
  ⟨some 28, .mv (.t 1), none⟩,
  ⟨some 29, .index (.t 28) (.c (.int .i64 (.ofNat 0))), none⟩,
  ⟨some 30, .call 61 [(.t 27), (.t 29)], none⟩,
  ⟨some 4, .mv (.t 30), none⟩]
@[simp] def f73r6 : List ROper := [
  ⟨some 32, .mv (.t 5), none⟩,
  ⟨some 33, .mv (.t 0), none⟩,
  ⟨some 34, .len .str (.t 33), none⟩,
  ⟨some 35, .bin .geq (.t 32) (.t 34), none⟩,
  ⟨some 31, .mv (.t 35), none⟩]
@[simp] def f73r7 : List ROper := [
  ⟨some 4, .mv (.c (.int .i64 (.negSucc 0))), none⟩]
@[simp] def f73r8 : List ROper := [
  ⟨some 37, .mv (.t 5), none⟩,
  ⟨some 38, .fail, none⟩,
  ⟨some 39, .bin .leq (.t 37) (.t 38), none⟩,
  ⟨some 40, .mv (.t 39), none⟩,
  ⟨some 41, .mv (.t 0), some (40, true)⟩,
  ⟨some 42, .len .str (.t 41), some (40, true)⟩,
  ⟨some 43, .bin .leq (.t 42) (.c (.int .i64 (.ofNat 64))), some (40, true)⟩,
  ⟨some 44, .pick (.t 40) (.t 43) (.c (.bool false)), none⟩,
  ⟨some 36, .mv (.t 44), none⟩]
@[simp] def f73r9 : List ROper := [
  ⟨some 45, .mv (.t 0), none⟩,
  ⟨some 46, .mv (.t 1), none⟩,
  ⟨some 47, .call 75 [(.t 45), (.t 46)], none⟩,
  ⟨some 4, .mv (.t 47), none⟩]
@[simp] def f73r10 : List ROper := [
  ⟨some 48, .mv (.t 1), none⟩,
  ⟨some 49, .index (.t 48) (.c (.int .i64 (.ofNat 0))), none⟩,
  ⟨some 6, .mv (.t 49), none⟩]
@[simp] def f73r11 : List ROper := [
  ⟨some 50, .mv (.t 1), none⟩,
  ⟨some 51, .index (.t 50) (.c (.int .i64 (.ofNat 1))), none⟩,
  ⟨some 7, .mv (.t 51), none⟩]
@[simp] def f73r12 : List ROper := [
  ⟨some 8, .mv (.c (.int .i64 (.ofNat 0))), none⟩]
@[simp] def f73r13 : List ROper := [
  ⟨some 52, .mv (.t 0), none⟩,
  ⟨some 53, .len .str (.t 52), none⟩,
  ⟨some 54, .mv (.t 5), none⟩,
  ⟨some 55, .bin .sub (.t 53) (.t 54), none⟩,
  ⟨some 56, .bin .add (.t 55) (.c (.int .i64 (.ofNat 1))), none⟩,
  ⟨some 9, .mv (.t 56), none⟩]
@[simp] def f73r14 : List ROper := [
  ⟨some 10, .mv (.c (.int .i64 (.ofNat 0))), none⟩]
@[simp] def f73r15 : List ROper := [
  ⟨some 57, .mv (.t 8), none⟩,
  ⟨some 58, .mv (.t 9), none⟩,
  ⟨some 59, .bin .lss (.t 57) (.t 58), none⟩]
@[simp] def f73r16 : List ROper := [
  ⟨some 60, .mv (.t 0), none⟩,
  ⟨some 61, .mv (.t 8), none⟩,
  ⟨some 62, .index (.t 60) (.t 61), none⟩,
  ⟨some 63, .mv (.t 6), none⟩,
  ⟨some 64, .bin .neq (.t 62) (.t 63), none⟩]
@[simp] def f73r17 : List ROper := [
  ⟨some 65, .mv (.t 0), none⟩,
  ⟨some 66, .mv (.t 8), none⟩,
  ⟨some 67, .bin .add (.t 66) (.c (.int .i64 (.ofNat 1))), none⟩,
  ⟨some 68, .mv (.t 9), none⟩,
  ⟨some 69, .slice true 1 (.t 65) (some (.t 67)) (some (.t 68)) none, none⟩,
  ⟨some 70, .mv (.t 6), none⟩,
  ⟨some 71, .call 61 [(.t 69), (.t 70)], none⟩,
  ⟨some 11, .mv (.t 71), none⟩]
@[simp] def f73r18 : List ROper := [
  ⟨some 72, .mv (.t 11), none⟩,
  ⟨some 73, .bin .lss (.t 72) (.c (.int .i64 (.ofNat 0))), none⟩]
@[simp] def f73r19 : List ROper := [
  ⟨some 4, .mv (.c (.int .i64 (.negSucc 0))), none⟩]
@[simp] def f73r20 : List ROper := [
  ⟨some 74, .mv (.t 8), none⟩,
  ⟨some 75, .mv (.t 11), none⟩,
  ⟨some 76, .bin .add (.t 75) (.c (.int .i64 (.ofNat 1))), none⟩,
  ⟨some 77, .bin .add (.t 74) (.t 76), none⟩,
  ⟨some 8, .mv (.t 77), none⟩]
@[simp] def f73r21 : List ROper := [
  ⟨some 78, .mv (.t 0), none⟩,
  ⟨some 79, .mv (.t 8), none⟩,
  ⟨some 80, .bin .add (.t 79) (.c (.int .i64 (.ofNat 1))), none⟩,
  ⟨some 81, .index (.t 78) (.t 80), none⟩,
  ⟨some 82, .mv (.t 7), none⟩,
  ⟨some 83, .bin .eql (.t 81) (.t 82), none⟩,
  ⟨some 84, .mv (.t 83), none⟩,
  ⟨some 85, .mv (.t 0), some (84, true)⟩,
  ⟨some 86, .mv (.t 8), some (84, true)⟩,
  ⟨some 87, .mv (.t 8), some (84, true)⟩,
  ⟨some 88, .mv (.t 5), some (84, true)⟩,
  ⟨some 89, .bin .add (.t 87) (.t 88), some (84, true)⟩,
  ⟨some 90, .slice true 1 (.t 85) (some (.t 86)) (some (.t 89)) none, some (84, true)⟩,
  ⟨some 91, .mv (.t 1), some (84, true)⟩,
  ⟨some 92, .bin .eql (.t 90) (.t 91), some (84, true)⟩,
  ⟨some 93, .pick (.t 84) (.t 92) (.c (.bool false)), none⟩]
@[simp] def f73r22 : List ROper := [
  ⟨some 94, .mv (.t 8), none⟩,
  ⟨some 4, .mv (.t 94), none⟩]
@[simp] def f73r23 : List ROper := [
  ⟨some 95, .mv (.t 8), none⟩,
  ⟨some 96, .bin .add (.t 95) (.c (.int .i64 (.ofNat 1))), none⟩,
  ⟨some 8, .mv (.t 96), none⟩]
@[simp] def f73r24 : List ROper := [
  ⟨some 97, .mv (.t 10), none⟩,
  ⟨some 98, .bin .add (.t 97) (.c (.int .i64 (.ofNat 1))), none⟩,
  ⟨some 10, .mv (.t 98), none⟩]
@[simp] def f73r25 : List ROper := [
  ⟨some 99, .mv (.t 5), none⟩,
  ⟨some 100, .fail, none⟩,
  ⟨some 101, .bin .leq (.t 99) (.t 100), none⟩,
  ⟨some 102, .mv (.t 101), none⟩,
  ⟨some 103, .mv (.t 10), some (102, true)⟩,
  ⟨some 104, .mv (.t 8), some (102, true)⟩,
  ⟨some 105, .call 76 [(.t 104)], some (102, true)⟩,
  ⟨some 106, .bin .gtr (.t 103) (.t 105), some (102, true)⟩,
  ⟨some 107, .pick (.t 102) (.t 106) (.c (.bool false)), none⟩]
@[simp] def f73r26 : List ROper := [
  ⟨some 108, .mv (.t 0), none⟩,
  ⟨some 109, .mv (.t 8), none⟩,
  ⟨some 110, .slice true 1 (.t 108) (some (.t 109)) none none, none⟩,
  ⟨some 111, .mv (.t 1), none⟩,
  ⟨some 112, .call 75 [(.t 110), (.t 111)], none⟩,
  ⟨some 12, .mv (.t 112), none⟩]
@[simp] def f73r27 : List ROper := [
  ⟨some 113, .mv (.t 12), none⟩,
  ⟨some 114, .bin .geq (.t 113) (.c (.int .i64 (.ofNat 0))), none⟩]
@[simp] def f73r28 : List ROper := [
  ⟨some 115, .mv (.t 12), none⟩,
  ⟨some 116, .mv (.t 8), none⟩,
  ⟨some 117, .bin .add (.t 115) (.t 116), none⟩,
  ⟨some 4, .mv (.t 117), none⟩]
@[simp] def f73r29 : List ROper := [
  ⟨some 4, .mv (.c (.int .i64 (.negSucc 0))), none⟩]
@[simp] def f73r30 : List ROper := [
  ⟨some 118, .mv (.t 5), none⟩,
  ⟨some 119, .fail, none⟩,
  ⟨some 120, .bin .gtr (.t 118) (.t 119), none⟩,
  ⟨some 121, .mv (.t 120), none⟩,
  ⟨some 122, .mv (.t 10), some (121, true)⟩,
  ⟨some 123, .mv (.t 8), some (121, true)⟩,
  ⟨some 124, .bin .shr (.t 123) (.c (.int .u64 (.ofNat 4))), some (121, true)⟩,
  ⟨some 125, .bin .add (.c (.int .i64 (.ofNat 4))) (.t 124), some (121, true)⟩,
  ⟨some 126, .bin .geq (.t 122) (.t 125), some (121, true)⟩,
  ⟨some 127, .pick (.t 121) (.t 126) (.c (.bool false)), none⟩,
  ⟨some 128, .mv (.t 127), none⟩,
  ⟨some 129, .mv (.t 8), some (128, true)⟩,
  ⟨some 130, .mv (.t 9), some (128, true)⟩,
  ⟨some 131, .bin .lss (.t 129) (.t 130), some (128, true)⟩,
  ⟨some 132, .pick (.t 128) (.t 131) (.c (.bool false)), none⟩]
@[simp] def f73r31 : List ROper := [
  ⟨some 133, .mv (.t 0), none⟩,
  ⟨some 134, .mv (.t 8), none⟩,
  ⟨some 135, .slice true 1 (.t 133) (some (.t 134)) none none, none⟩,
  ⟨some 136, .mv (.t 1), none⟩,
  ⟨some 137, .call 77 [(.t 135), (.t 136)], none⟩,
  ⟨some 13, .mv (.t 137), none⟩]
@[simp] def f73r32 : List ROper := [
  ⟨some 138, .mv (.t 13), none⟩,
  ⟨some 139, .bin .lss (.t 138) (.c (.int .i64 (.ofNat 0))), none⟩]
@[simp] def f73r33 : List ROper := [
  ⟨some 4, .mv (.c (.int .i64 (.negSucc 0))), none⟩]
@[simp] def f73r34 : List ROper := [
  ⟨some 140, .mv (.t 8), none⟩,
  ⟨some 141, .mv (.t 13), none⟩,
  ⟨some 142, .bin .add (.t 140) (.t 141), none⟩,
  ⟨some 4, .mv (.t 142), none⟩]
def f73B0 : RC := (.seq (.seq (.region f73r15 [0, 1, 5, 6, 7, 8, 9, 10, 59]) (.cond (.t 59) .skip (.exit 1))) (.block 2 (.seq (.seq (.region f73r16 [0, 1, 5, 6, 7, 8, 9, 10, 64]) (.cond (.t 64) (.seq (.region f73r17 [0, 1, 5, 6, 7, 8, 9, 10, 11]) (.seq (.seq (.region f73r18 [0, 1, 5, 6, 7, 8, 9, 10, 11, 73]) (.cond (.t 73) (.seq (.region f73r19 [4]) .ret) .skip)) (.region f73r20 [0, 1, 5, 6, 7, 8, 9, 10]))) .skip)) (.seq (.seq (.region f73r21 [0, 1, 5, 6, 7, 8, 9, 10, 93]) (.cond (.t 93) (.seq (.region f73r22 [4]) .ret) .skip)) (.seq (.region f73r23 [0, 1, 5, 6, 7, 8, 9, 10]) (.seq (.region f73r24 [0, 1, 5, 6, 7, 8, 9, 10]) (.seq (.region f73r25 [0, 1, 5, 6, 7, 8, 9, 10, 107]) (.cond (.t 107) (.seq (.region f73r26 [8, 12]) (.seq (.seq (.region f73r27 [8, 12, 114]) (.cond (.t 114) (.seq (.region f73r28 [4]) .ret) .skip)) (.seq (.region f73r29 [4]) .ret))) (.seq (.region f73r30 [0, 1, 5, 6, 7, 8, 9, 10, 132]) (.cond (.t 132) (.seq (.region f73r31 [8, 13]) (.seq (.seq (.region f73r32 [8, 13, 139]) (.cond (.t 139) (.seq (.region f73r33 [4]) .ret) .skip)) (.seq (.region f73r34 [4]) .ret))) .skip))))))))))
def f73L0 : RC := .loop [0, 1, 5, 6, 7, 8, 9, 10] f73B0
@[simp] def f73r35 : List ROper := [
  ⟨some 4, .mv (.c (.int .i64 (.negSucc 0))), none⟩]
def f73 : RFunc := ⟨[.t 4], (.seq (.region f73r0 [0, 1]) (.seq (.region f73r1 [0, 1, 5]) (.seq (.block 0 (.seq (.region f73r2 [0, 1, 5, 16]) (.cond (.t 16) (.seq (.region f73r3 [4]) .ret) (.seq (.region f73r4 [0, 1, 5, 24]) (.cond (.t 24) (.seq (.region f73r5 [4]) .ret) (.seq (.region f73r6 [0, 1, 5, 31]) (.cond (.t 31) (.seq (.region f73r7 [4]) .ret) (.seq (.region f73r8 [0, 1, 5, 36]) (.cond (.t 36) (.seq (.region f73r9 [4]) .ret) .skip))))))))) (.seq (.region f73r10 [0, 1, 5, 6]) (.seq (.region f73r11 [0, 1, 5, 6, 7]) (.seq (.region f73r12 [0, 1, 5, 6, 7, 8]) (.seq (.region f73r13 [0, 1, 5, 6, 7, 8, 9]) (.seq (.region f73r14 [0, 1, 5, 6, 7, 8, 9, 10]) (.seq (.block 1 f73L0) (.seq (.region f73r35 [4]) .ret)))))))))), true⟩

/-! quire/cluster.letter -/
@[simp] def f74r0 : List ROper := [
  ⟨some 2, .mv (.c (.bool false)), none⟩]
@[simp] def f74r1 : List ROper := [
  ⟨some 3, .mv (.t 0), none⟩,
  ⟨some 4, .bin .geq (.t 3) (.c (.int .u8 (.ofNat 97))), none⟩,
  ⟨some 5, .mv (.t 4), none⟩,
  ⟨some 6, .mv (.t 0), some (5, true)⟩,
  ⟨some 7, .bin .leq (.t 6) (.c (.int .u8 (.ofNat 122))), some (5, true)⟩,
  ⟨some 8, .pick (.t 5) (.t 7) (.c (.bool false)), none⟩,
  ⟨some 9, .mv (.t 8), none⟩,
  ⟨some 10, .mv (.t 0), some (9, false)⟩,
  ⟨some 11, .bin .geq (.t 10) (.c (.int .u8 (.ofNat 65))), some (9, false)⟩,
  ⟨some 12, .mv (.t 11), some (9, false)⟩,
  ⟨some 13, .mv (.t 0), some (12, true)⟩,
  ⟨some 14, .bin .leq (.t 13) (.c (.int .u8 (.ofNat 90))), some (12, true)⟩,
  ⟨some 15, .pick (.t 12) (.t 14) (.c (.bool false)), some (9, false)⟩,
  ⟨some 16, .pick (.t 9) (.c (.bool true)) (.t 15), none⟩,
  ⟨some 2, .mv (.t 16), none⟩]
def f74 : RFunc := ⟨[.t 2], (.seq (.region f74r0 [0]) (.seq (.region f74r1 [2]) .ret)), true⟩

/-! internal/bytealg.Cutover -/
@[simp] def f76r0 : List ROper := [
  ⟨some 2, .mv (.c (.int .i64 (.ofNat 0))), none⟩]
@[simp] def f76r1 : List ROper := [
  ⟨some 3, .mv (.t 0), none⟩,
  ⟨some 4, .bin .add (.t 3) (.c (.int .i64 (.ofNat 16))), none⟩,
  ⟨some 5, .bin .quo (.t 4) (.c (.int .i64 (.ofNat 8))), none⟩,
  ⟨some 2, .mv (.t 5), none⟩]
def f76 : RFunc := ⟨[.t 2], (.seq (.region f76r0 [0]) (.seq (.region f76r1 [2]) .ret)), true⟩

/-! internal/bytealg.IndexRabinKarp[string] -/
@[simp] def f77r0 : List ROper := [
  ⟨some 4, .mv (.c (.int .i64 (.ofNat 0))), none⟩]
@[simp] def f77r1 : List ROper := [
  ⟨some 12, .mv (.t 1), none⟩,
  ⟨some 13, .call 78 [(.t 12)], none⟩,
  ⟨some 11, .mv (.t 13), none⟩,
  ⟨some 14, .extract (.t 11) 0, none⟩,
  ⟨some 15, .extract (.t 11) 1, none⟩,
  ⟨some 5, .mv (.t 14), none⟩,
  ⟨some 6, .mv (.t 15), none⟩]
@[simp] def f77r2 : List ROper := [
  ⟨some 16, .mv (.t 1), none⟩,
  ⟨some 17, .len .str (.t 16), none⟩,
  ⟨some 7, .mv (.t 17), none⟩]
@[simp] def f77r3 : List ROper := [
  ⟨some 8, .mv (.c (.int .u32 (.ofNat 0))), none⟩]
@[simp] def f77r4 : List ROper := [
  ⟨some 9, .mv (.c (.int .i64 (.ofNat 0))), none⟩]
@[simp] def f77r5 : List ROper := [
  ⟨some 18, .mv (.t 9), none⟩,
  ⟨some 19, .mv (.t 7), none⟩,
  ⟨some 20, .bin .lss (.t 18) (.t 19), none⟩]
@[simp] def f77r6 : List ROper := [
  ⟨some 23, .mv (.t 8), none⟩,
  ⟨some 24, .bin .mul (.t 23) (.c (.int .u32 (.ofNat 16777619))), none⟩,
  ⟨some 25, .mv (.t 0), none⟩,
  ⟨some 26, .mv (.t 9), none⟩,
  ⟨some 27, .index (.t 25) (.t 26), none⟩,
  ⟨some 28, .i2i .u32 (.t 27), none⟩,
  ⟨some 29, .bin .add (.t 24) (.t 28), none⟩,
  ⟨some 8, .mv (.t 29), none⟩]
@[simp] def f77r7 : List ROper := [
  ⟨some 21, .mv (.t 9), none⟩,
  ⟨some 22, .bin .add (.t 21) (.c (.int .i64 (.ofNat 1))), none⟩,
  ⟨some 9, .mv (.t 22), none⟩]
def f77B0 : RC := (.seq (.seq (.region f77r5 [0, 1, 5, 6, 7, 8, 9, 20]) (.cond (.t 20) .skip (.exit 0))) (.seq (.block 1 (.region f77r6 [0, 1, 5, 6, 7, 8, 9])) (.region f77r7 [0, 1, 5, 6, 7, 8, 9])))
def f77L0 : RC := .loop [0, 1, 5, 6, 7, 8, 9] f77B0
@[simp] def f77r8 : List ROper := [
  ⟨some 30, .mv (.t 8), none⟩,
  ⟨some 31, .mv (.t 5), none⟩,
  ⟨some 32, .bin .eql (.t 30) (.t 31), none⟩,
  ⟨some 33, .mv (.t 32), none⟩,
  ⟨some 34, .mv (.t 0), some (33, true)⟩,
  ⟨some 35, .mv (.t 7), some (33, true)⟩,
  ⟨some 36, .slice true 1 (.t 34) none (some (.t 35)) none, some (33, true)⟩,
  ⟨some 37, .mv (.t 1), some (33, true)⟩,
  ⟨some 38, .bin .eql (.t 36) (.t 37), some (33, true)⟩,
  ⟨some 39, .pick (.t 33) (.t 38) (.c (.bool false)), none⟩]
@[simp] def f77r9 : List ROper := [
  ⟨some 4, .mv (.c (.int .i64 (.ofNat 0))), none⟩]
@[simp] def f77r10 : List ROper := [
  ⟨some 40, .mv (.t 7), none⟩,
  ⟨some 10, .mv (.t 40), none⟩]
@[simp] def f77r11 : List ROper := [
  ⟨some 41, .mv (.t 10), none⟩,
  ⟨some 42, .mv (.t 0), none⟩,
  ⟨some 43, .len .str (.t 42), none⟩,
  ⟨some 44, .bin .lss (.t 41) (.t 43), none⟩]
@[simp] def f77r12 : List ROper := [
  ⟨some 45, .mv (.t 8), none⟩,
  ⟨some 46, .bin .mul (.t 45) (.c (.int .u32 (.ofNat 16777619))), none⟩,
  ⟨some 8, .mv (.t 46), none⟩]
@[simp] def f77r13 : List ROper := [
  ⟨some 47, .mv (.t 8), none⟩,
  ⟨some 48, .mv (.t 0), none⟩,
  ⟨some 49, .mv (.t 10), none⟩,
  ⟨some 50, .index (.t 48) (.t 49), none⟩,
  ⟨some 51, .i2i .u32 (.t 50), none⟩,
  ⟨some 52, .bin .add (.t 47) (.t 51), none⟩,
  ⟨some 8, .mv (.t 52), none⟩]
@[simp] def f77r14 : List ROper := [
  ⟨some 53, .mv (.t 8), none⟩,
  ⟨some 54, .mv (.t 6), none⟩,
  ⟨some 55, .mv (.t 0), none⟩,
  ⟨some 56, .mv (.t 10), none⟩,
  ⟨some 57, .mv (.t 7), none⟩,
  ⟨some 58, .bin .sub (.t 56) (.t 57), none⟩,
  ⟨some 59, .index (.t 55) (.t 58), none⟩,
  ⟨some 60, .i2i .u32 (.t 59), none⟩,
  ⟨some 61, .bin .mul (.t 54) (.t 60), none⟩,
  ⟨some 62, .bin .sub (.t 53) (.t 61), none⟩,
  ⟨some 8, .mv (.t 62), none⟩]
@[simp] def f77r15 : List ROper := [
  ⟨some 63, .mv (.t 10), none⟩,
  ⟨some 64, .bin .add (.t 63) (.c (.int .i64 (.ofNat 1))), none⟩,
  ⟨some 10, .mv (.t 64), none⟩]
@[simp] def f77r16 : List ROper := [
  ⟨some 65, .mv (.t 8), none⟩,
  ⟨some 66, .mv (.t 5), none⟩,
  ⟨some 67, .bin .eql (.t 65) (.t 66), none⟩,
  ⟨some 68, .mv (.t 67), none⟩,
  ⟨some 69, .mv (.t 0), some (68, true)⟩,
  ⟨some 70, .mv (.t 10), some (68, true)⟩,
  ⟨some 71, .mv (.t 7), some (68, true)⟩,
  ⟨some 72, .bin .sub (.t 70) (.t 71), some (68, true)⟩,
  ⟨some 73, .mv (.t 10), some (68, true)⟩,
  ⟨some 74, .slice true 1 (.t 69) (some (.t 72)) (some (.t 73)) none, some (68, true)⟩,
  ⟨some 75, .mv (.t 1), some (68, true)⟩,
  ⟨some 76, .bin .eql (.t 74) (.t 75), some (68, true)⟩,
  ⟨some 77, .pick (.t 68) (.t 76) (.c (.bool false)), none⟩]
@[simp] def f77r17 : List ROper := [
  ⟨some 78, .mv (.t 10), none⟩,
  ⟨some 79, .mv (.t 7), none⟩,
  ⟨some 80, .bin .sub (.t 78) (.t 79), none⟩,
  ⟨some 4, .mv (.t 80), none⟩]
def f77B1 : RC := (.seq (.seq (.region f77r11 [0, 1, 5, 6, 7, 8, 10, 44]) (.cond (.t 44) .skip (.exit 2))) (.block 3 (.seq (.region f77r12 [0, 1, 5, 6, 7, 8, 10]) (.seq (.region f77r13 [0, 1, 5, 6, 7, 8, 10]) (.seq (.region f77r14 [0, 1, 5, 6, 7, 8, 10]) (.seq (.region f77r15 [0, 1, 5, 6, 7, 8, 10]) (.seq (.region f77r16 [0, 1, 5, 6, 7, 8, 10, 77]) (.cond (.t 77) (.seq (.region f77r17 [4]) .ret) .skip))))))))
def f77L1 : RC := .loop [0, 1, 5, 6, 7, 8, 10] f77B1
@[simp] def f77r18 : List ROper := [
  ⟨some 4, .mv (.c (.int .i64 (.negSucc 0))), none⟩]
def f77 : RFunc := ⟨[.t 4], (.seq (.region f77r0 [0, 1]) (.seq (.region f77r1 [0, 1, 5, 6]) (.seq (.region f77r2 [0, 1, 5, 6, 7]) (.seq (.region f77r3 [0, 1, 5, 6, 7, 8]) (.seq (.seq (.region f77r4 [0, 1, 5, 6, 7, 8, 9]) (.block 0 f77L0)) (.seq (.seq (.region f77r8 [0, 1, 5, 6, 7, 8, 39]) (.cond (.t 39) (.seq (.region f77r9 [4]) .ret) .skip)) (.seq (.seq (.region f77r10 [0, 1, 5, 6, 7, 8, 10]) (.block 2 f77L1)) (.seq (.region f77r18 [4]) .ret)))))))), true⟩

/-! internal/bytealg.hashStr[string] -/
@[simp] def f78r0 : List ROper := [
  ⟨some 2, .mv (.c (.int .u32 (.ofNat 0))), none⟩,
  ⟨some 3, .mv (.c (.int .u32 (.ofNat 0))), none⟩]
@[simp] def f78r1 : List ROper := [
  ⟨some 4, .mv (.c (.int .u32 (.ofNat 0))), none⟩]
@[simp] def f78r2 : List ROper := [
  ⟨some 5, .mv (.c (.int .i64 (.ofNat 0))), none⟩]
@[simp] def f78r3 : List ROper := [
  ⟨some 9, .mv (.t 5), none⟩,
  ⟨some 10, .mv (.t 0), none⟩,
  ⟨some 11, .len .str (.t 10), none⟩,
  ⟨some 12, .bin .lss (.t 9) (.t 11), none⟩]
@[simp] def f78r4 : List ROper := [
  ⟨some 15, .mv (.t 4), none⟩,
  ⟨some 16, .bin .mul (.t 15) (.c (.int .u32 (.ofNat 16777619))), none⟩,
  ⟨some 17, .mv (.t 0), none⟩,
  ⟨some 18, .mv (.t 5), none⟩,
  ⟨some 19, .index (.t 17) (.t 18), none⟩,
  ⟨some 20, .i2i .u32 (.t 19), none⟩,
  ⟨some 21, .bin .add (.t 16) (.t 20), none⟩,
  ⟨some 4, .mv (.t 21), none⟩]
@[simp] def f78r5 : List ROper := [
  ⟨some 13, .mv (.t 5), none⟩,
  ⟨some 14, .bin .add (.t 13) (.c (.int .i64 (.ofNat 1))), none⟩,
  ⟨some 5, .mv (.t 14), none⟩]
def f78B0 : RC := (.seq (.seq (.region f78r3 [0, 4, 5, 12]) (.cond (.t 12) .skip (.exit 0))) (.seq (.block 1 (.region f78r4 [0, 4, 5])) (.region f78r5 [0, 4, 5])))
def f78L0 : RC := .loop [0, 4, 5] f78B0
@[simp] def f78r6 : List ROper := [
  ⟨some 6, .mv (.c (.int .u32 (.ofNat 1))), none⟩,
  ⟨some 7, .mv (.c (.int .u32 (.ofNat 16777619))), none⟩]
@[simp] def f78r7 : List ROper := [
  ⟨some 22, .mv (.t 0), none⟩,
  ⟨some 23, .len .str (.t 22), none⟩,
  ⟨some 8, .mv (.t 23), none⟩]
@[simp] def f78r8 : List ROper := [
  ⟨some 24, .mv (.t 8), none⟩,
  ⟨some 25, .bin .gtr (.t 24) (.c (.int .i64 (.ofNat 0))), none⟩]
@[simp] def f78r9 : List ROper := [
  ⟨some 28, .mv (.t 8), none⟩,
  ⟨some 29, .bin .and (.t 28) (.c (.int .i64 (.ofNat 1))), none⟩,
  ⟨some 30, .bin .neq (.t 29) (.c (.int .i64 (.ofNat 0))), none⟩]
@[simp] def f78r10 : List ROper := [
  ⟨some 31, .mv (.t 6), none⟩,
  ⟨some 32, .mv (.t 7), none⟩,
  ⟨some 33, .bin .mul (.t 31) (.t 32), none⟩,
  ⟨some 6, .mv (.t 33), none⟩]
@[simp] def f78r11 : List ROper := [
  ⟨some 34, .mv (.t 7), none⟩,
  ⟨some 35, .mv (.t 7), none⟩,
  ⟨some 36, .bin .mul (.t 34) (.t 35), none⟩,
  ⟨some 7, .mv (.t 36), none⟩]
@[simp] def f78r12 : List ROper := [
  ⟨some 26, .mv (.t 8), none⟩,
  ⟨some 27, .bin .shr (.t 26) (.c (.int .u64 (.ofNat 1))), none⟩,
  ⟨some 8, .mv (.t 27), none⟩]
def f78B1 : RC := (.seq (.seq (.region f78r8 [4, 6, 7, 8, 25]) (.cond (.t 25) .skip (.exit 2))) (.seq (.block 3 (.seq (.seq (.region f78r9 [4, 6, 7, 8, 30]) (.cond (.t 30) (.region f78r10 [4, 6, 7, 8]) .skip)) (.region f78r11 [4, 6, 7, 8]))) (.region f78r12 [4, 6, 7, 8])))
def f78L1 : RC := .loop [4, 6, 7, 8] f78B1
@[simp] def f78r13 : List ROper := [
  ⟨some 37, .mv (.t 4), none⟩,
  ⟨some 38, .mv (.t 6), none⟩,
  ⟨some 2, .mv (.t 37), none⟩,
  ⟨some 3, .mv (.t 38), none⟩]
def f78 : RFunc := ⟨[.t 2, .t 3], (.seq (.region f78r0 [0]) (.seq (.region f78r1 [0, 4]) (.seq (.seq (.region f78r2 [0, 4, 5]) (.block 0 f78L0)) (.seq (.region f78r6 [0, 4, 6, 7]) (.seq (.seq (.region f78r7 [4, 6, 7, 8]) (.block 2 f78L1)) (.seq (.region f78r13 [2, 3]) .ret)))))), true⟩

/-! quire/quirekit.LentTexts -/
@[simp] def f182r0 : List ROper := [
  ⟨some 2, .mv (.c (.list 0 0 .no false [])), none⟩]
@[simp] def f182r1 : List ROper := [
  ⟨some 5, .mv (.t 0), none⟩,
  ⟨some 6, .len .slice (.t 5), none⟩,
  ⟨some 7, .bin .add (.t 6) (.c (.int .i64 (.ofNat 3))), none⟩,
  ⟨some 8, .mkslice 1 false 16 [(.str [])] (.t 7) (.t 7), none⟩,
  ⟨some 3, .mv (.t 8), none⟩]
@[simp] def f182r2 : List ROper := [
  ⟨some 9, .mv (.t 3), none⟩,
  ⟨some 10, .mv (.t 0), none⟩,
  ⟨some 11, .copy 1 (.t 9) (.t 10), none⟩]
@[simp] def f182r3 : List ROper := [
  ⟨some 12, .mv (.t 0), none⟩,
  ⟨some 13, .len .slice (.t 12), none⟩,
  ⟨some 4, .mv (.t 13), none⟩]
@[simp] def f182r4 : List ROper := [
  ⟨some 14, .mv (.t 4), none⟩,
  ⟨some 15, .mv (.t 3), none⟩,
  ⟨some 16, .len .slice (.t 15), none⟩,
  ⟨some 17, .bin .lss (.t 14) (.t 16), none⟩]
@[simp] def f182r5 : List ROper := [
  ⟨some 20, .mv (.t 3), none⟩,
  ⟨some 21, .mv (.t 4), none⟩,
  ⟨some 22, .iaddr 1 (.t 20) (.t 21), none⟩,
  ⟨none, .store 1 (.t 22) (.c (.str [108, 101, 110, 116])), none⟩]
@[simp] def f182r6 : List ROper := [
  ⟨some 18, .mv (.t 4), none⟩,
  ⟨some 19, .bin .add (.t 18) (.c (.int .i64 (.ofNat 1))), none⟩,
  ⟨some 4, .mv (.t 19), none⟩]
def f182B0 : RC := (.seq (.seq (.region f182r4 [0, 3, 4, 17]) (.cond (.t 17) .skip (.exit 0))) (.seq (.block 1 (.region f182r5 [0, 3, 4])) (.region f182r6 [0, 3, 4])))
def f182L0 : RC := .loop [0, 3, 4] f182B0
@[simp] def f182r7 : List ROper := [
  ⟨some 23, .mv (.t 3), none⟩,
  ⟨some 24, .mv (.t 0), none⟩,
  ⟨some 25, .len .slice (.t 24), none⟩,
  ⟨some 26, .slice false 1 (.t 23) none (some (.t 25)) none, none⟩,
  ⟨some 2, .mv (.t 26), none⟩]
def f182 : RFunc := ⟨[.t 2], (.seq (.region f182r0 [0]) (.seq (.region f182r1 [0, 3]) (.seq (.region f182r2 [0, 3]) (.seq (.seq (.region f182r3 [0, 3, 4]) (.block 0 f182L0)) (.seq (.region f182r7 [2]) .ret))))), false⟩

/-! quire/quirekit.KeptTexts -/
@[simp] def f184r0 : List ROper := [
  ⟨some 4, .mv (.c (.bool false)), none⟩]
@[simp] def f184r1 : List ROper := [
  ⟨some 5, .mv (.t 0), none⟩,
  ⟨some 6, .len .slice (.t 5), none⟩,
  ⟨some 7, .mv (.t 1), none⟩,
  ⟨some 8, .len .slice (.t 7), none⟩,
  ⟨some 9, .bin .eql (.t 6) (.t 8), none⟩,
  ⟨some 10, .mv (.t 9), none⟩,
  ⟨some 11, .mv (.t 0), some (10, true)⟩,
  ⟨some 12, .mv (.t 0), some (10, true)⟩,
  ⟨some 13, .cap (.t 12), some (10, true)⟩,
  ⟨some 14, .slice false 1 (.t 11) none (some (.t 13)) none, some (10, true)⟩,
  ⟨some 15, .mv (.t 1), some (10, true)⟩,
  ⟨some 16, .call 182 [(.t 15)], some (10, true)⟩,
  ⟨some 17, .mv (.t 1), some (10, true)⟩,
  ⟨some 18, .len .slice (.t 17), some (10, true)⟩,
  ⟨some 19, .bin .add (.t 18) (.c (.int .i64 (.ofNat 3))), some (10, true)⟩,
  ⟨some 20, .slice false 1 (.t 16) none (some (.t 19)) none, some (10, true)⟩,
  ⟨some 21, .call 50 [(.t 14), (.t 20)], some (10, true)⟩,
  ⟨some 22, .pick (.t 10) (.t 21) (.c (.bool false)), none⟩,
  ⟨some 4, .mv (.t 22), none⟩]
def f184 : RFunc := ⟨[.t 4], (.seq (.region f184r0 [0, 1]) (.seq (.dregion f184r1 [] [(13, [0])] [4]) .ret)), true⟩

/-! quire/quirekit.SameInts -/
@[simp] def f187r0 : List ROper := [
  ⟨some 4, .mv (.c (.bool false)), none⟩]
@[simp] def f187r1 : List ROper := [
  ⟨some 6, .mv (.t 0), none⟩,
  ⟨some 7, .len .slice (.t 6), none⟩,
  ⟨some 8, .mv (.t 1), none⟩,
  ⟨some 9, .len .slice (.t 8), none⟩,
  ⟨some 10, .bin .neq (.t 7) (.t 9), none⟩]
@[simp] def f187r2 : List ROper := [
  ⟨some 4, .mv (.c (.bool false)), none⟩]
@[simp] def f187r3 : List ROper := [
  ⟨some 5, .mv (.c (.int .i64 (.ofNat 0))), none⟩]
@[simp] def f187r4 : List ROper := [
  ⟨some 11, .mv (.t 5), none⟩,
  ⟨some 12, .mv (.t 0), none⟩,
  ⟨some 13, .len .slice (.t 12), none⟩,
  ⟨some 14, .bin .lss (.t 11) (.t 13), none⟩]
@[simp] def f187r5 : List ROper := [
  ⟨some 17, .mv (.t 0), none⟩,
  ⟨some 18, .mv (.t 5), none⟩,
  ⟨some 19, .iaddr 1 (.t 17) (.t 18), none⟩,
  ⟨some 20, .load 1 false (.t 19), none⟩,
  ⟨some 21, .mv (.t 1), none⟩,
  ⟨some 22, .mv (.t 5), none⟩,
  ⟨some 23, .iaddr 1 (.t 21) (.t 22), none⟩,
  ⟨some 24, .load 1 false (.t 23), none⟩,
  ⟨some 25, .bin .neq (.t 20) (.t 24), none⟩]
@[simp] def f187r6 : List ROper := [
  ⟨some 4, .mv (.c (.bool false)), none⟩]
@[simp] def f187r7 : List ROper := [
  ⟨some 15, .mv (.t 5), none⟩,
  ⟨some 16, .bin .add (.t 15) (.c (.int .i64 (.ofNat 1))), none⟩,
  ⟨some 5, .mv (.t 16), none⟩]
def f187B0 : RC := (.seq (.seq (.region f187r4 [0, 1, 5, 14]) (.cond (.t 14) .skip (.exit 0))) (.seq (.block 1 (.seq (.dregion f187r5 [] [] [0, 1, 5, 25]) (.cond (.t 25) (.seq (.region f187r6 [4]) .ret) .skip))) (.region f187r7 [0, 1, 5])))
def f187L0 : RC := .loop [0, 1, 5] f187B0
@[simp] def f187r8 : List ROper := [
  ⟨some 4, .mv (.c (.bool true)), none⟩]
def f187 : RFunc := ⟨[.t 4], (.seq (.region f187r0 [0, 1]) (.seq (.seq (.region f187r1 [0, 1, 10]) (.cond (.t 10) (.seq (.region f187r2 [4]) .ret) .skip)) (.seq (.seq (.region f187r3 [0, 1, 5]) (.block 0 f187L0)) (.seq (.region f187r8 [4]) .ret)))), true⟩

/-! quire/grid.Widths -/
@[simp] def f430r0 : List ROper := [
  ⟨some 2, .box 2 (.t 0), none⟩,
  ⟨some 4, .mv (.c (.list 0 0 .no false [])), none⟩,
  ⟨some 5, .mv (.c (.bool false)), none⟩,
  ⟨some 6, .mv (.c (.int .i64 (.ofNat 0))), none⟩]
@[simp] def f430r1 : List ROper := [
  ⟨some 15, .load 2 true (.t 2), none⟩,
  ⟨some 16, .call 453 [(.t 15)], none⟩,
  ⟨some 7, .mv (.t 16), none⟩]
@[simp] def f430r2 : List ROper := [
  ⟨some 17, .mv (.t 7), none⟩,
  ⟨some 18, .bin .neq (.t 17) (.c (.int .i64 (.ofNat 0))), none⟩]
@[simp] def f430r3 : List ROper := [
  ⟨some 19, .mv (.t 7), none⟩,
  ⟨some 4, .mv (.c (.list 0 0 .no false [])), none⟩,
  ⟨some 5, .mv (.c (.bool false)), none⟩,
  ⟨some 6, .mv (.t 19), none⟩]
@[simp] def f430r4 : List ROper := [
  ⟨some 20, .mv (.t 1), none⟩,
  ⟨some 21, .bin .lss (.t 20) (.c (.int .i64 (.ofNat 0))), none⟩,
  ⟨some 22, .mv (.t 21), none⟩,
  ⟨some 23, .mv (.t 1), some (22, false)⟩,
  ⟨some 24, .bin .gtr (.t 23) (.c (.int .i64 (.ofNat 4095))), some (22, false)⟩,
  ⟨some 25, .pick (.t 22) (.c (.bool true)) (.t 24), none⟩]
@[simp] def f430r5 : List ROper := [
  ⟨some 4, .mv (.c (.list 0 0 .no false [])), none⟩,
  ⟨some 5, .mv (.c (.bool false)), none⟩,
  ⟨some 6, .mv (.c (.int .i64 (.ofNat 5))), none⟩]
@[simp] def f430r6 : List ROper := [
  ⟨some 27, .load 2 true (.t 2), none⟩,
  ⟨some 28, .call 454 [(.t 27)], none⟩,
  ⟨some 26, .mv (.t 28), none⟩,
  ⟨some 29, .extract (.t 26) 0, none⟩,
  ⟨some 30, .extract (.t 26) 1, none⟩,
  ⟨some 8, .mv (.t 29), none⟩,
  ⟨some 9, .mv (.t 30), none⟩]
@[simp] def f430r7 : List ROper := [
  ⟨some 31, .mv (.t 9), none⟩,
  ⟨some 32, .call 455 [(.t 31)], none⟩,
  ⟨some 33, .mv (.t 1), none⟩,
  ⟨some 34, .bin .leq (.t 32) (.t 33), none⟩]
@[simp] def f430r8 : List ROper := [
  ⟨some 35, .mv (.t 9), none⟩,
  ⟨some 4, .mv (.t 35), none⟩,
  ⟨some 5, .mv (.c (.bool false)), none⟩,
  ⟨some 6, .mv (.c (.int .i64 (.ofNat 0))), none⟩]
@[simp] def f430r9 : List ROper := [
  ⟨some 36, .faddr 0 (.t 2), none⟩,
  ⟨some 37, .load 1 false (.t 36), none⟩,
  ⟨some 38, .mkslice 1 false 8 [(.int .i64 (.ofNat 0))] (.t 37) (.t 37), none⟩,
  ⟨some 10, .mv (.t 38), none⟩]
@[simp] def f430r10 : List ROper := [
  ⟨some 39, .mv (.t 8), none⟩,
  ⟨some 40, .call 455 [(.t 39)], none⟩,
  ⟨some 41, .mv (.t 1), none⟩,
  ⟨some 42, .bin .gtr (.t 40) (.t 41), none⟩]
@[simp] def f430r11 : List ROper := [
  ⟨some 43, .mv (.t 1), none⟩,
  ⟨some 44, .faddr 0 (.t 2), none⟩,
  ⟨some 45, .load 1 false (.t 44), none⟩,
  ⟨some 46, .build [(.int .i64 (.ofNat 0)), (.int .i64 (.ofNat 0)), (.int .i64 (.ofNat 0)), (.int .i64 (.ofNat 0))] [(0, 1, (.t 43)), (1, 1, (.t 45))], none⟩,
  ⟨some 11, .alloc [(.int .i64 (.ofNat 0)), (.int .i64 (.ofNat 0)), (.int .i64 (.ofNat 0)), (.int .i64 (.ofNat 0))], none⟩,
  ⟨none, .store 4 (.t 11) (.t 46), none⟩]
@[simp] def f430r12 : List ROper := [
  ⟨some 47, .mv (.t 10), none⟩,
  ⟨some 48, .len .slice (.t 47), none⟩,
  ⟨some 49, .mv (.c (.int .i64 (.ofNat 0))), none⟩]
@[simp] def f430r13 : List ROper := [
  ⟨some 50, .bin .lss (.t 49) (.t 48), none⟩]
@[simp] def f430r14 : List ROper := [
  ⟨some 51, .mv (.t 49), none⟩,
  ⟨some 12, .mv (.t 51), none⟩]
@[simp] def f430r15 : List ROper := [
  ⟨some 52, .mv (.t 10), none⟩,
  ⟨some 53, .mv (.t 12), none⟩,
  ⟨some 54, .call 456 [(.t 11), (.c (.int .i64 (.ofNat 1)))], none⟩,
  ⟨some 55, .iaddr 1 (.t 52) (.t 53), none⟩,
  ⟨none, .store 1 (.t 55) (.t 54), none⟩]
@[simp] def f430r16 : List ROper := [
  ⟨some 56, .bin .add (.t 49) (.c (.int .i64 (.ofNat 1))), none⟩,
  ⟨some 49, .mv (.t 56), none⟩]
def f430B0 : RC := (.seq (.region f430r13 [10, 11, 48, 49, 50]) (.seq (.cond (.t 50) .skip (.exit 0)) (.seq (.block 1 (.seq (.region f430r14 [10, 11, 12, 48, 49]) (.region f430r15 [10, 11, 48, 49]))) (.region f430r16 [10, 11, 48, 49]))))
def f430L0 : RC := .loop [10, 11, 48, 49] f430B0
@[simp] def f430r17 : List ROper := [
  ⟨some 57, .mv (.t 10), none⟩,
  ⟨some 4, .mv (.t 57), none⟩,
  ⟨some 5, .mv (.c (.bool true)), none⟩,
  ⟨some 6, .mv (.c (.int .i64 (.ofNat 0))), none⟩]
@[simp] def f430r18 : List ROper := [
  ⟨some 58, .mv (.t 1), none⟩,
  ⟨some 59, .mv (.t 8), none⟩,
  ⟨some 60, .call 455 [(.t 59)], none⟩,
  ⟨some 61, .bin .sub (.t 58) (.t 60), none⟩,
  ⟨some 62, .mv (.t 9), none⟩,
  ⟨some 63, .call 455 [(.t 62)], none⟩,
  ⟨some 64, .mv (.t 8), none⟩,
  ⟨some 65, .call 455 [(.t 64)], none⟩,
  ⟨some 66, .bin .sub (.t 63) (.t 65), none⟩,
  ⟨some 67, .build [(.int .i64 (.ofNat 0)), (.int .i64 (.ofNat 0)), (.int .i64 (.ofNat 0)), (.int .i64 (.ofNat 0))] [(0, 1, (.t 61)), (1, 1, (.t 66))], none⟩,
  ⟨some 13, .alloc [(.int .i64 (.ofNat 0)), (.int .i64 (.ofNat 0)), (.int .i64 (.ofNat 0)), (.int .i64 (.ofNat 0))], none⟩,
  ⟨none, .store 4 (.t 13) (.t 67), none⟩]
@[simp] def f430r19 : List ROper := [
  ⟨some 68, .mv (.t 10), none⟩,
  ⟨some 69, .len .slice (.t 68), none⟩,
  ⟨some 70, .mv (.c (.int .i64 (.ofNat 0))), none⟩]
@[simp] def f430r20 : List ROper := [
  ⟨some 71, .bin .lss (.t 70) (.t 69), none⟩]
@[simp] def f430r21 : List ROper := [
  ⟨some 72, .mv (.t 70), none⟩,
  ⟨some 14, .mv (.t 72), none⟩]
@[simp] def f430r22 : List ROper := [
  ⟨some 73, .mv (.t 10), none⟩,
  ⟨some 74, .mv (.t 14), none⟩,
  ⟨some 75, .mv (.t 8), none⟩,
  ⟨some 76, .mv (.t 14), none⟩,
  ⟨some 77, .iaddr 1 (.t 75) (.t 76), none⟩,
  ⟨some 78, .load 1 false (.t 77), none⟩,
  ⟨some 79, .mv (.t 9), none⟩,
  ⟨some 80, .mv (.t 14), none⟩,
  ⟨some 81, .iaddr 1 (.t 79) (.t 80), none⟩,
  ⟨some 82, .load 1 false (.t 81), none⟩,
  ⟨some 83, .mv (.t 8), none⟩,
  ⟨some 84, .mv (.t 14), none⟩,
  ⟨some 85, .iaddr 1 (.t 83) (.t 84), none⟩,
  ⟨some 86, .load 1 false (.t 85), none⟩,
  ⟨some 87, .bin .sub (.t 82) (.t 86), none⟩,
  ⟨some 88, .call 456 [(.t 13), (.t 87)], none⟩,
  ⟨some 89, .bin .add (.t 78) (.t 88), none⟩,
  ⟨some 90, .iaddr 1 (.t 73) (.t 74), none⟩,
  ⟨none, .store 1 (.t 90) (.t 89), none⟩]
@[simp] def f430r23 : List ROper := [
  ⟨some 91, .bin .add (.t 70) (.c (.int .i64 (.ofNat 1))), none⟩,
  ⟨some 70, .mv (.t 91), none⟩]
def f430B1 : RC := (.seq (.region f430r20 [8, 9, 10, 13, 69, 70, 71]) (.seq (.cond (.t 71) .skip (.exit 2)) (.seq (.block 3 (.seq (.region f430r21 [8, 9, 10, 13, 14, 69, 70]) (.dregion f430r22 [] [(5, [1])] [8, 9, 10, 13, 69, 70]))) (.region f430r23 [8, 9, 10, 13, 69, 70]))))
def f430L1 : RC := .loop [8, 9, 10, 13, 69, 70] f430B1
@[simp] def f430r24 : List ROper := [
  ⟨some 92, .mv (.t 10), none⟩,
  ⟨some 4, .mv (.t 92), none⟩,
  ⟨some 5, .mv (.c (.bool false)), none⟩,
  ⟨some 6, .mv (.c (.int .i64 (.ofNat 0))), none⟩]
def f430 : RFunc := ⟨[.t 4, .t 5, .t 6], (.seq (.region f430r0 [1, 2]) (.seq (.seq (.region f430r1 [1, 2, 7]) (.seq (.region f430r2 [1, 2, 7, 18]) (.cond (.t 18) (.seq (.region f430r3 [4, 5, 6]) .ret) .skip))) (.seq (.seq (.region f430r4 [1, 2, 25]) (.cond (.t 25) (.seq (.region f430r5 [4, 5, 6]) .ret) .skip)) (.seq (.region f430r6 [1, 2, 8, 9]) (.seq (.seq (.region f430r7 [1, 2, 8, 9, 34]) (.cond (.t 34) (.seq (.region f430r8 [4, 5, 6]) .ret) .skip)) (.seq (.region f430r9 [1, 2, 8, 9, 10]) (.seq (.seq (.region f430r10 [1, 2, 8, 9, 10, 42]) (.cond (.t 42) (.seq (.region f430r11 [10, 11]) (.seq (.seq (.region f430r12 [10, 11, 48, 49]) (.block 0 f430L0)) (.seq (.region f430r17 [4, 5, 6]) .ret))) .skip)) (.seq (.region f430r18 [8, 9, 10, 13]) (.seq (.seq (.region f430r19 [8, 9, 10, 13, 69, 70]) (.block 2 f430L1)) (.seq (.region f430r24 [4, 5, 6]) .ret)))))))))), true⟩

/-! quire/grid.Check -/
@[simp] def f453r0 : List ROper := [
  ⟨some 1, .box 2 (.t 0), none⟩,
  ⟨some 2, .mv (.c (.int .i64 (.ofNat 0))), none⟩]
@[simp] def f453r1 : List ROper := [
  ⟨some 8, .faddr 1 (.t 1), none⟩,
  ⟨some 9, .load 1 false (.t 8), none⟩,
  ⟨some 10, .len .slice (.t 9), none⟩,
  ⟨some 3, .mv (.t 10), none⟩]
@[simp] def f453r2 : List ROper := [
  ⟨some 11, .faddr 0 (.t 1), none⟩,
  ⟨some 12, .load 1 false (.t 11), none⟩,
  ⟨some 13, .bin .lss (.t 12) (.c (.int .i64 (.ofNat 1))), none⟩,
  ⟨some 14, .mv (.t 13), none⟩,
  ⟨some 15, .faddr 0 (.t 1), some (14, false)⟩,
  ⟨some 16, .load 1 false (.t 15), some (14, false)⟩,
  ⟨some 17, .bin .gtr (.t 16) (.c (.int .i64 (.ofNat 8))), some (14, false)⟩,
  ⟨some 18, .pick (.t 14) (.c (.bool true)) (.t 17), none⟩,
  ⟨some 19, .mv (.t 18), none⟩,
  ⟨some 20, .mv (.t 3), some (19, false)⟩,
  ⟨some 21, .bin .lss (.t 20) (.c (.int .i64 (.ofNat 1))), some (19, false)⟩,
  ⟨some 22, .pick (.t 19) (.c (.bool true)) (.t 21), none⟩,
  ⟨some 23, .mv (.t 22), none⟩,
  ⟨some 24, .mv (.t 3), some (23, false)⟩,
  ⟨some 25, .bin .gtr (.t 24) (.c (.int .i64 (.ofNat 64))), some (23, false)⟩,
  ⟨some 26, .pick (.t 23) (.c (.bool true)) (.t 25), none⟩,
  ⟨some 27, .mv (.t 26), none⟩,
  ⟨some 28, .mv (.t 3), some (27, false)⟩,
  ⟨some 29, .faddr 0 (.t 1), some (27, false)⟩,
  ⟨some 30, .load 1 false (.t 29), some (27, false)⟩,
  ⟨some 31, .bin .rem (.t 28) (.t 30), some (27, false)⟩,
  ⟨some 32, .bin .neq (.t 31) (.c (.int .i64 (.ofNat 0))), some (27, false)⟩,
  ⟨some 33, .pick (.t 27) (.c (.bool true)) (.t 32), none⟩]
@[simp] def f453r3 : List ROper := [
  ⟨some 2, .mv (.c (.int .i64 (.ofNat 2))), none⟩]
@[simp] def f453r4 : List ROper := [
  ⟨some 34, .faddr 1 (.t 1), none⟩,
  ⟨some 35, .load 1 false (.t 34), none⟩,
  ⟨some 36, .len .slice (.t 35), none⟩,
  ⟨some 37, .mv (.c (.int .i64 (.ofNat 0))), none⟩]
@[simp] def f453r5 : List ROper := [
  ⟨some 38, .bin .lss (.t 37) (.t 36), none⟩]
@[simp] def f453r6 : List ROper := [
  ⟨some 39, .iaddr 1 (.t 35) (.t 37), none⟩,
  ⟨some 40, .load 1 false (.t 39), none⟩,
  ⟨some 5, .mv (.t 40), none⟩]
@[simp] def f453r7 : List ROper := [
  ⟨some 41, .mv (.t 5), none⟩,
  ⟨some 42, .len .str (.t 41), none⟩,
  ⟨some 43, .bin .gtr (.t 42) (.c (.int .i64 (.ofNat 200))), none⟩]
@[simp] def f453r8 : List ROper := [
  ⟨some 2, .mv (.c (.int .i64 (.ofNat 2))), none⟩]
@[simp] def f453r9 : List ROper := [
  ⟨some 44, .mv (.t 5), none⟩,
  ⟨some 45, .s2b (.t 44), none⟩,
  ⟨some 46, .len .slice (.t 45), none⟩,
  ⟨some 47, .mv (.c (.int .i64 (.ofNat 0))), none⟩]
@[simp] def f453r10 : List ROper := [
  ⟨some 48, .bin .lss (.t 47) (.t 46), none⟩]
@[simp] def f453r11 : List ROper := [
  ⟨some 49, .iaddr 1 (.t 45) (.t 47), none⟩,
  ⟨some 50, .load 1 false (.t 49), none⟩,
  ⟨some 7, .mv (.t 50), none⟩]
@[simp] def f453r12 : List ROper := [
  ⟨some 51, .mv (.t 7), none⟩,
  ⟨some 52, .bin .lss (.t 51) (.c (.int .u8 (.ofNat 32))), none⟩,
  ⟨some 53, .mv (.t 52), none⟩,
  ⟨some 54, .mv (.t 7), some (53, false)⟩,
  ⟨some 55, .bin .gtr (.t 54) (.c (.int .u8 (.ofNat 126))), some (53, false)⟩,
  ⟨some 56, .pick (.t 53) (.c (.bool true)) (.t 55), none⟩]
@[simp] def f453r13 : List ROper := [
  ⟨some 2, .mv (.c (.int .i64 (.ofNat 2))), none⟩]
@[simp] def f453r14 : List ROper := [
  ⟨some 57, .bin .add (.t 47) (.c (.int .i64 (.ofNat 1))), none⟩,
  ⟨some 47, .mv (.t 57), none⟩]
def f453B0 : RC := (.seq (.region f453r10 [35, 36, 37, 45, 46, 47, 48]) (.seq (.cond (.t 48) .skip (.exit 2)) (.seq (.block 3 (.seq (.region f453r11 [7, 35, 36, 37, 45, 46, 47]) (.seq (.region f453r12 [35, 36, 37, 45, 46, 47, 56]) (.cond (.t 56) (.seq (.region f453r13 [2]) .ret) .skip)))) (.region f453r14 [35, 36, 37, 45, 46, 47]))))
def f453L0 : RC := .loop [35, 36, 37, 45, 46, 47] f453B0
@[simp] def f453r15 : List ROper := [
  ⟨some 58, .bin .add (.t 37) (.c (.int .i64 (.ofNat 1))), none⟩,
  ⟨some 37, .mv (.t 58), none⟩]
def f453B1 : RC := (.seq (.region f453r5 [35, 36, 37, 38]) (.seq (.cond (.t 38) .skip (.exit 0)) (.seq (.block 1 (.seq (.region f453r6 [5, 35, 36, 37]) (.seq (.seq (.region f453r7 [5, 35, 36, 37, 43]) (.cond (.t 43) (.seq (.region f453r8 [2]) .ret) .skip)) (.seq (.region f453r9 [35, 36, 37, 45, 46, 47]) (.block 2 f453L0))))) (.region f453r15 [35, 36, 37]))))
def f453L1 : RC := .loop [35, 36, 37] f453B1
@[simp] def f453r16 : List ROper := [
  ⟨some 2, .mv (.c (.int .i64 (.ofNat 0))), none⟩]
def f453 : RFunc := ⟨[.t 2], (.seq (.region f453r0 [1]) (.seq (.region f453r1 [1, 3]) (.seq (.seq (.region f453r2 [1, 33]) (.cond (.t 33) (.seq (.region f453r3 [2]) .ret) .skip)) (.seq (.seq (.region f453r4 [35, 36, 37]) (.block 0 f453L1)) (.seq (.region f453r16 [2]) .ret))))), true⟩

/-! quire/grid.both -/
@[simp] def f454r0 : List ROper := [
  ⟨some 1, .box 2 (.t 0), none⟩,
  ⟨some 2, .mv (.c (.list 0 0 .no false [])), none⟩,
  ⟨some 3, .mv (.c (.list 0 0 .no false [])), none⟩]
@[simp] def f454r1 : List ROper := [
  ⟨some 12, .faddr 0 (.t 1), none⟩,
  ⟨some 13, .load 1 false (.t 12), none⟩,
  ⟨some 14, .mkslice 1 false 8 [(.int .i64 (.ofNat 0))] (.t 13) (.t 13), none⟩,
  ⟨some 15, .faddr 0 (.t 1), none⟩,
  ⟨some 16, .load 1 false (.t 15), none⟩,
  ⟨some 17, .mkslice 1 false 8 [(.int .i64 (.ofNat 0))] (.t 16) (.t 16), none⟩,
  ⟨some 4, .alloc [(.list 0 0 .no false [])], none⟩,
  ⟨some 5, .alloc [(.list 0 0 .no false [])], none⟩,
  ⟨none, .store 1 (.t 4) (.t 14), none⟩,
  ⟨none, .store 1 (.t 5) (.t 17), none⟩]
@[simp] def f454r2 : List ROper := [
  ⟨some 18, .load 2 true (.t 1), none⟩,
  ⟨some 19, .call 469 [(.t 18)], none⟩]
@[simp] def f454r3 : List ROper := [
  ⟨some 6, .mv (.t 20), none⟩]
@[simp] def f454r4 : List ROper := [
  ⟨some 7, .mv (.t 21), none⟩]
@[simp] def f454r5 : List ROper := [
  ⟨some 22, .mv (.t 7), none⟩,
  ⟨some 23, .len .slice (.t 22), none⟩,
  ⟨some 24, .mv (.c (.int .i64 (.ofNat 0))), none⟩]
@[simp] def f454r6 : List ROper := [
  ⟨some 25, .bin .lss (.t 24) (.t 23), none⟩]
@[simp] def f454r7 : List ROper := [
  ⟨some 26, .iaddr 1 (.t 22) (.t 24), none⟩,
  ⟨some 27, .load 1 false (.t 26), none⟩,
  ⟨some 9, .mv (.t 27), none⟩]
@[simp] def f454r8 : List ROper := [
  ⟨some 29, .mv (.t 9), none⟩,
  ⟨some 30, .call 470 [(.t 29)], none⟩,
  ⟨some 28, .mv (.t 30), none⟩,
  ⟨some 31, .extract (.t 28) 0, none⟩,
  ⟨some 32, .extract (.t 28) 1, none⟩,
  ⟨some 10, .mv (.t 31), none⟩,
  ⟨some 11, .mv (.t 32), none⟩]
@[simp] def f454r9 : List ROper := [
  ⟨some 33, .load 1 false (.t 4), none⟩,
  ⟨some 34, .mv (.t 6), none⟩,
  ⟨some 35, .load 1 false (.t 5), none⟩,
  ⟨some 36, .mv (.t 6), none⟩,
  ⟨some 37, .load 1 false (.t 4), none⟩,
  ⟨some 38, .mv (.t 6), none⟩,
  ⟨some 39, .iaddr 1 (.t 37) (.t 38), none⟩,
  ⟨some 40, .load 1 false (.t 39), none⟩,
  ⟨some 41, .mv (.t 10), none⟩,
  ⟨some 42, .max [(.t 40), (.t 41)], none⟩,
  ⟨some 43, .load 1 false (.t 5), none⟩,
  ⟨some 44, .mv (.t 6), none⟩,
  ⟨some 45, .iaddr 1 (.t 43) (.t 44), none⟩,
  ⟨some 46, .load 1 false (.t 45), none⟩,
  ⟨some 47, .mv (.t 11), none⟩,
  ⟨some 48, .max [(.t 46), (.t 47)], none⟩,
  ⟨some 49, .iaddr 1 (.t 33) (.t 34), none⟩,
  ⟨none, .store 1 (.t 49) (.t 42), none⟩,
  ⟨some 50, .iaddr 1 (.t 35) (.t 36), none⟩,
  ⟨none, .store 1 (.t 50) (.t 48), none⟩]
@[simp] def f454r10 : List ROper := [
  ⟨some 51, .bin .add (.t 24) (.c (.int .i64 (.ofNat 1))), none⟩,
  ⟨some 24, .mv (.t 51), none⟩]
def f454B0 : RC := (.seq (.region f454r6 [4, 5, 6, 22, 23, 24, 25]) (.seq (.cond (.t 25) .skip (.exit 2)) (.seq (.block 3 (.seq (.region f454r7 [4, 5, 6, 9, 22, 23, 24]) (.seq (.region f454r8 [4, 5, 6, 10, 11, 22, 23, 24]) (.dregion f454r9 [] [(2, [1])] [4, 5, 6, 22, 23, 24])))) (.region f454r10 [4, 5, 6, 22, 23, 24]))))
def f454L0 : RC := .loop [4, 5, 6, 22, 23, 24] f454B0
@[simp] def f454r11 : List ROper := [
  ⟨some 52, .load 1 false (.t 4), none⟩,
  ⟨some 53, .mv (.t 6), none⟩,
  ⟨some 54, .iaddr 1 (.t 52) (.t 53), none⟩,
  ⟨some 55, .load 1 false (.t 54), none⟩,
  ⟨some 56, .bin .add (.t 55) (.c (.int .i64 (.ofNat 4))), none⟩,
  ⟨some 57, .iaddr 1 (.t 52) (.t 53), none⟩,
  ⟨none, .store 1 (.t 57) (.t 56), none⟩]
@[simp] def f454r12 : List ROper := [
  ⟨some 58, .load 1 false (.t 5), none⟩,
  ⟨some 59, .mv (.t 6), none⟩,
  ⟨some 60, .iaddr 1 (.t 58) (.t 59), none⟩,
  ⟨some 61, .load 1 false (.t 60), none⟩,
  ⟨some 62, .bin .add (.t 61) (.c (.int .i64 (.ofNat 4))), none⟩,
  ⟨some 63, .iaddr 1 (.t 58) (.t 59), none⟩,
  ⟨none, .store 1 (.t 63) (.t 62), none⟩]
@[simp] def f454r13 : List ROper := [
  ⟨some 64, .load 1 false (.t 4), none⟩,
  ⟨some 65, .load 1 false (.t 5), none⟩,
  ⟨some 2, .mv (.t 64), none⟩,
  ⟨some 3, .mv (.t 65), none⟩]
def f454 : RFunc := ⟨[.t 2, .t 3], (.seq (.region f454r0 [1]) (.seq (.dregion f454r1 [2, 5, 6, 7] [(4, [1])] [1, 4, 5]) (.seq (.seq (.region f454r2 [4, 5, 19]) (.block 0 (.rfunc (.t 19) [20, 21] (.seq (.region f454r3 [4, 5, 6, 21]) (.region f454r4 [4, 5, 6, 7])) (.block 1 (.seq (.seq (.region f454r5 [4, 5, 6, 22, 23, 24]) (.block 2 f454L0)) (.seq (.region f454r11 [5, 6]) (.region f454r12 [])))) [4, 5, 19]))) (.seq (.dregion f454r13 [] [] [2, 3]) .ret)))), false⟩

/-! quire/grid.sum -/
@[simp] def f455r0 : List ROper := [
  ⟨some 2, .mv (.c (.int .i64 (.ofNat 0))), none⟩]
@[simp] def f455r1 : List ROper := [
  ⟨some 3, .mv (.c (.int .i64 (.ofNat 0))), none⟩]
@[simp] def f455r2 : List ROper := [
  ⟨some 6, .mv (.t 0), none⟩,
  ⟨some 7, .len .slice (.t 6), none⟩,
  ⟨some 8, .mv (.c (.int .i64 (.ofNat 0))), none⟩]
@[simp] def f455r3 : List ROper := [
  ⟨some 9, .bin .lss (.t 8) (.t 7), none⟩]
@[simp] def f455r4 : List ROper := [
  ⟨some 10, .iaddr 1 (.t 6) (.t 8), none⟩,
  ⟨some 11, .load 1 false (.t 10), none⟩,
  ⟨some 5, .mv (.t 11), none⟩]
@[simp] def f455r5 : List ROper := [
  ⟨some 12, .mv (.t 3), none⟩,
  ⟨some 13, .mv (.t 5), none⟩,
  ⟨some 14, .bin .add (.t 12) (.t 13), none⟩,
  ⟨some 3, .mv (.t 14), none⟩]
@[simp] def f455r6 : List ROper := [
  ⟨some 15, .bin .add (.t 8) (.c (.int .i64 (.ofNat 1))), none⟩,
  ⟨some 8, .mv (.t 15), none⟩]
def f455B0 : RC := (.seq (.region f455r3 [3, 6, 7, 8, 9]) (.seq (.cond (.t 9) .skip (.exit 0)) (.seq (.block 1 (.seq (.region f455r4 [3, 5, 6, 7, 8]) (.region f455r5 [3, 6, 7, 8]))) (.region f455r6 [3, 6, 7, 8]))))
def f455L0 : RC := .loop [3, 6, 7, 8] f455B0
@[simp] def f455r7 : List ROper := [
  ⟨some 16, .mv (.t 3), none⟩,
  ⟨some 2, .mv (.t 16), none⟩]
def f455 : RFunc := ⟨[.t 2], (.seq (.region f455r0 [0]) (.seq (.region f455r1 [0, 3]) (.seq (.seq (.region f455r2 [3, 6, 7, 8]) (.block 0 f455L0)) (.seq (.region f455r7 [2]) .ret)))), true⟩

/-! (*quire/grid.share).next -/
@[simp] def f456r0 : List ROper := [
  ⟨some 4, .mv (.c (.int .i64 (.ofNat 0))), none⟩]
@[simp] def f456r1 : List ROper := [
  ⟨some 6, .mv (.t 0), none⟩,
  ⟨some 7, .nilchk (.t 6), none⟩,
  ⟨some 8, .faddr 3 (.t 7), none⟩,
  ⟨some 9, .load 1 false (.t 8), none⟩,
  ⟨some 10, .mv (.t 1), none⟩,
  ⟨some 11, .bin .add (.t 9) (.t 10), none⟩,
  ⟨some 12, .nilchk (.t 6), none⟩,
  ⟨some 13, .faddr 3 (.t 12), none⟩,
  ⟨none, .store 1 (.t 13) (.t 11), none⟩]
@[simp] def f456r2 : List ROper := [
  ⟨some 14, .mv (.t 0), none⟩,
  ⟨some 15, .nilchk (.t 14), none⟩,
  ⟨some 16, .faddr 0 (.t 15), none⟩,
  ⟨some 17, .load 1 false (.t 16), none⟩,
  ⟨some 18, .mv (.t 0), none⟩,
  ⟨some 19, .nilchk (.t 18), none⟩,
  ⟨some 20, .faddr 3 (.t 19), none⟩,
  ⟨some 21, .load 1 false (.t 20), none⟩,
  ⟨some 22, .bin .mul (.t 17) (.t 21), none⟩,
  ⟨some 23, .mv (.t 0), none⟩,
  ⟨some 24, .nilchk (.t 23), none⟩,
  ⟨some 25, .faddr 1 (.t 24), none⟩,
  ⟨some 26, .load 1 false (.t 25), none⟩,
  ⟨some 27, .bin .quo (.t 22) (.t 26), none⟩,
  ⟨some 28, .mv (.t 0), none⟩,
  ⟨some 29, .nilchk (.t 28), none⟩,
  ⟨some 30, .faddr 2 (.t 29), none⟩,
  ⟨some 31, .load 1 false (.t 30), none⟩,
  ⟨some 32, .bin .sub (.t 27) (.t 31), none⟩,
  ⟨some 5, .mv (.t 32), none⟩]
@[simp] def f456r3 : List ROper := [
  ⟨some 33, .mv (.t 0), none⟩,
  ⟨some 34, .nilchk (.t 33), none⟩,
  ⟨some 35, .faddr 2 (.t 34), none⟩,
  ⟨some 36, .load 1 false (.t 35), none⟩,
  ⟨some 37, .mv (.t 5), none⟩,
  ⟨some 38, .bin .add (.t 36) (.t 37), none⟩,
  ⟨some 39, .nilchk (.t 33), none⟩,
  ⟨some 40, .faddr 2 (.t 39), none⟩,
  ⟨none, .store 1 (.t 40) (.t 38), none⟩]
@[simp] def f456r4 : List ROper := [
  ⟨some 41, .mv (.t 5), none⟩,
  ⟨some 4, .mv (.t 41), none⟩]
def f456 : RFunc := ⟨[.t 4], (.seq (.region f456r0 [0, 1]) (.seq (.region f456r1 [0]) (.seq (.dregion f456r2 [] [] [0, 5]) (.seq (.region f456r3 [5]) (.seq (.region f456r4 [4]) .ret))))), false⟩

/-! quire/grid.Cell -/
@[simp] def f458r0 : List ROper := [
  ⟨some 2, .alloc [(.str []), (.list 0 0 .no false []), (.int .i64 (.ofNat 0)), (.int .i64 (.ofNat 0)), (.int .i64 (.ofNat 0)), (.int .i64 (.ofNat 0)), (.int .i64 (.ofNat 0)), (.int .i64 (.ofNat 0)), (.int .i64 (.ofNat 0)), (.int .i64 (.ofNat 0)), (.int .i64 (.ofNat 0)), (.int .i64 (.ofNat 0)), (.int .i64 (.ofNat 0)), (.int .i64 (.ofNat 0)), (.int .i64 (.ofNat 0)), (.int .i64 (.ofNat 0)), (.int .i64 (.ofNat 0)), (.int .i64 (.ofNat 0)), (.int .i64 (.ofNat 0)), (.str []), (.list 0 0 .no false [])], none⟩]
@[simp] def f458r1 : List ROper := [
  ⟨some 4, .mv (.t 0), none⟩,
  ⟨some 5, .build [(.int .i64 (.ofNat 0)), (.int .i64 (.ofNat 0)), (.int .i64 (.ofNat 0)), (.int .i64 (.ofNat 0)), (.int .i64 (.ofNat 0)), (.int .i64 (.ofNat 0)), (.int .i64 (.ofNat 0)), (.int .i64 (.ofNat 0)), (.int .i64 (.ofNat 0)), (.int .i64 (.ofNat 0)), (.int .i64 (.ofNat 0)), (.int .i64 (.ofNat 0)), (.int .i64 (.ofNat 0)), (.int .i64 (.ofNat 0)), (.int .i64 (.ofNat 0)), (.int .i64 (.ofNat 0)), (.int .i64 (.ofNat 0))] [(0, 1, (.c (.int .i64 (.ofNat 8)))), (1, 1, (.c (.int .i64 (.ofNat 10)))), (10, 1, (.c (.int .i64 (.ofNat 1)))), (11, 1, (.c (.int .i64 (.ofNat 1))))], none⟩,
  ⟨some 6, .build [(.str []), (.list 0 0 .no false []), (.int .i64 (.ofNat 0)), (.int .i64 (.ofNat 0)), (.int .i64 (.ofNat 0)), (.int .i64 (.ofNat 0)), (.int .i64 (.ofNat 0)), (.int .i64 (.ofNat 0)), (.int .i64 (.ofNat 0)), (.int .i64 (.ofNat 0)), (.int .i64 (.ofNat 0)), (.int .i64 (.ofNat 0)), (.int .i64 (.ofNat 0)), (.int .i64 (.ofNat 0)), (.int .i64 (.ofNat 0)), (.int .i64 (.ofNat 0)), (.int .i64 (.ofNat 0)), (.int .i64 (.ofNat 0)), (.int .i64 (.ofNat 0)), (.str []), (.list 0 0 .no false [])] [(0, 1, (.t 4)), (2, 17, (.t 5))], none⟩,
  ⟨some 3, .alloc [(.str []), (.list 0 0 .no false []), (.int .i64 (.ofNat 0)), (.int .i64 (.ofNat 0)), (.int .i64 (.ofNat 0)), (.int .i64 (.ofNat 0)), (.int .i64 (.ofNat 0)), (.int .i64 (.ofNat 0)), (.int .i64 (.ofNat 0)), (.int .i64 (.ofNat 0)), (.int .i64 (.ofNat 0)), (.int .i64 (.ofNat 0)), (.int .i64 (.ofNat 0)), (.int .i64 (.ofNat 0)), (.int .i64 (.ofNat 0)), (.int .i64 (.ofNat 0)), (.int .i64 (.ofNat 0)), (.int .i64 (.ofNat 0)), (.int .i64 (.ofNat 0)), (.str []), (.list 0 0 .no false [])], none⟩,
  ⟨none, .store 21 (.t 3) (.t 6), none⟩]
@[simp] def f458r2 : List ROper := [
  ⟨some 7, .mv (.t 0), none⟩,
  ⟨some 8, .bin .neq (.t 7) (.c (.str [])), none⟩]
@[simp] def f458r3 : List ROper := [
  ⟨some 9, .mv (.t 0), none⟩,
  ⟨some 10, .len .str (.t 9), none⟩,
  ⟨some 11, .build [(.int .i64 (.ofNat 0)), (.int .i64 (.ofNat 0)), (.int .i64 (.ofNat 0)), (.int .i64 (.ofNat 0))] [(0, 1, (.t 10))], none⟩,
  ⟨some 12, .lit 4 true [(.int .i64 (.ofNat 0)), (.int .i64 (.ofNat 0)), (.int .i64 (.ofNat 0)), (.int .i64 (.ofNat 0))] 1 [(0, (.t 11))], none⟩,
  ⟨some 13, .faddr 1 (.t 3), none⟩,
  ⟨none, .store 1 (.t 13) (.t 12), none⟩]
@[simp] def f458r4 : List ROper := [
  ⟨some 14, .load 21 true (.t 3), none⟩,
  ⟨none, .store 21 (.t 2) (.t 14), none⟩]
def f458 : RFunc := ⟨[.cell 2 21 true], (.seq (.region f458r0 [0, 2]) (.seq (.region f458r1 [0, 2, 3]) (.seq (.seq (.region f458r2 [0, 2, 3, 8]) (.cond (.t 8) (.region f458r3 [2, 3]) .skip)) (.seq (.region f458r4 [2]) .ret)))), true⟩

/-! quire/grid.columns -/
@[simp] def f469r0 : List ROper := [
  ⟨some 1, .box 2 (.t 0), none⟩,
  ⟨some 2, .mv (.c .nilfn), none⟩]
@[simp] def f469r1 : List ROper := [
  ⟨some 3, .mkfn 476 [] [(.t 1)], none⟩,
  ⟨some 2, .mv (.t 3), none⟩]
def f469 : RFunc := ⟨[.t 2], (.seq (.region f469r0 [1]) (.seq (.region f469r1 [2]) .ret)), false⟩

/-! quire/grid.widths -/
@[simp] def f470r0 : List ROper := [
  ⟨some 2, .mv (.c (.int .i64 (.ofNat 0))), none⟩,
  ⟨some 3, .mv (.c (.int .i64 (.ofNat 0))), none⟩]
@[simp] def f470r1 : List ROper := [
  ⟨some 14, .mv (.t 0), none⟩,
  ⟨some 15, .call 458 [(.t 14)], none⟩,
  ⟨some 16, .call 10 [(.t 15)], none⟩,
  ⟨some 13, .mv (.t 16), none⟩,
  ⟨some 17, .extract (.t 13) 0, none⟩,
  ⟨some 18, .extract (.t 13) 1, none⟩,
  ⟨some 4, .mv (.t 17), none⟩,
  ⟨some 5, .mv (.t 18), none⟩]
@[simp] def f470r2 : List ROper := [
  ⟨some 20, .mv (.t 4), none⟩,
  ⟨some 21, .mv (.t 4), none⟩,
  ⟨some 22, .len .slice (.t 21), none⟩,
  ⟨some 23, .call 23 [(.t 20), (.c (.int .i64 (.ofNat 0))), (.t 22)], none⟩,
  ⟨some 19, .mv (.t 23), none⟩,
  ⟨some 24, .extract (.t 19) 0, none⟩,
  ⟨some 25, .extract (.t 19) 1, none⟩,
  ⟨some 6, .mv (.t 24), none⟩,
  ⟨some 7, .mv (.t 25), none⟩]
@[simp] def f470r3 : List ROper := [
  ⟨some 8, .mv (.c (.int .i64 (.ofNat 0))), none⟩,
  ⟨some 9, .mv (.c (.int .i64 (.ofNat 0))), none⟩]
@[simp] def f470r4 : List ROper := [
  ⟨some 10, .mv (.c (.int .i64 (.ofNat 0))), none⟩]
@[simp] def f470r5 : List ROper := [
  ⟨some 26, .mv (.t 10), none⟩,
  ⟨some 27, .mv (.t 4), none⟩,
  ⟨some 28, .len .slice (.t 27), none⟩,
  ⟨some 29, .bin .leq (.t 26) (.t 28), none⟩]
@[simp] def f470r6 : List ROper := [
  ⟨some 32, .mv (.t 10), none⟩,
  ⟨some 33, .mv (.t 4), none⟩,
  ⟨some 34, .len .slice (.t 33), none⟩,
  ⟨some 35, .bin .lss (.t 32) (.t 34), none⟩,
  ⟨some 36, .mv (.t 35), none⟩,
  ⟨some 37, .mv (.t 4), some (36, true)⟩,
  ⟨some 38, .mv (.t 10), some (36, true)⟩,
  ⟨some 39, .iaddr 6 (.t 37) (.t 38), some (36, true)⟩,
  ⟨some 40, .faddr 2 (.t 39), some (36, true)⟩,
  ⟨some 41, .load 1 false (.t 40), some (36, true)⟩,
  ⟨some 42, .bin .neq (.t 41) (.c (.int .i64 (.ofNat 3))), some (36, true)⟩,
  ⟨some 43, .pick (.t 36) (.t 42) (.c (.bool false)), none⟩]
@[simp] def f470r7 : List ROper := [
  ⟨some 45, .mv (.t 4), none⟩,
  ⟨some 46, .mv (.t 9), none⟩,
  ⟨some 47, .mv (.t 10), none⟩,
  ⟨some 48, .call 23 [(.t 45), (.t 46), (.t 47)], none⟩,
  ⟨some 44, .mv (.t 48), none⟩,
  ⟨some 49, .extract (.t 44) 0, none⟩,
  ⟨some 50, .extract (.t 44) 1, none⟩,
  ⟨some 11, .mv (.t 49), none⟩,
  ⟨some 12, .mv (.t 50), none⟩]
@[simp] def f470r8 : List ROper := [
  ⟨some 51, .mv (.t 8), none⟩,
  ⟨some 52, .mv (.t 11), none⟩,
  ⟨some 53, .max [(.t 51), (.t 52)], none⟩,
  ⟨some 8, .mv (.t 53), none⟩]
@[simp] def f470r9 : List ROper := [
  ⟨some 54, .mv (.t 10), none⟩,
  ⟨some 55, .bin .add (.t 54) (.c (.int .i64 (.ofNat 1))), none⟩,
  ⟨some 9, .mv (.t 55), none⟩]
@[simp] def f470r10 : List ROper := [
  ⟨some 30, .mv (.t 10), none⟩,
  ⟨some 31, .bin .add (.t 30) (.c (.int .i64 (.ofNat 1))), none⟩,
  ⟨some 10, .mv (.t 31), none⟩]
def f470B0 : RC := (.seq (.seq (.region f470r5 [4, 6, 8, 9, 10, 29]) (.cond (.t 29) .skip (.exit 0))) (.seq (.block 1 (.seq (.seq (.region f470r6 [4, 6, 8, 9, 10, 43]) (.cond (.t 43) (.exit 1) .skip)) (.seq (.region f470r7 [4, 6, 8, 10, 11]) (.seq (.region f470r8 [4, 6, 8, 10]) (.region f470r9 [4, 6, 8, 9, 10]))))) (.region f470r10 [4, 6, 8, 9, 10])))
def f470L0 : RC := .loop [4, 6, 8, 9, 10] f470B0
@[simp] def f470r11 : List ROper := [
  ⟨some 56, .mv (.t 8), none⟩,
  ⟨some 57, .mv (.t 6), none⟩,
  ⟨some 2, .mv (.t 56), none⟩,
  ⟨some 3, .mv (.t 57), none⟩]
def f470 : RFunc := ⟨[.t 2, .t 3], (.seq (.region f470r0 [0]) (.seq (.region f470r1 [4]) (.seq (.region f470r2 [4, 6]) (.seq (.region f470r3 [4, 6, 8, 9]) (.seq (.seq (.region f470r4 [4, 6, 8, 9, 10]) (.block 0 f470L0)) (.seq (.region f470r11 [2, 3]) .ret)))))), true⟩

/-! quire/grid.columns$1 -/
@[simp] def f476r0 : List ROper := [
  ⟨some 6, .faddr 0 (.t 1), none⟩,
  ⟨some 7, .load 1 false (.t 6), none⟩,
  ⟨some 8, .mv (.c (.int .i64 (.ofNat 0))), none⟩]
@[simp] def f476r1 : List ROper := [
  ⟨some 9, .bin .lss (.t 8) (.t 7), none⟩]
@[simp] def f476r2 : List ROper := [
  ⟨some 10, .mv (.t 8), none⟩,
  ⟨some 3, .mv (.t 10), none⟩]
@[simp] def f476r3 : List ROper := [
  ⟨some 4, .mv (.c (.list 0 0 .no false [])), none⟩]
@[simp] def f476r4 : List ROper := [
  ⟨some 11, .mv (.t 3), none⟩,
  ⟨some 5, .mv (.t 11), none⟩]
@[simp] def f476r5 : List ROper := [
  ⟨some 12, .mv (.t 5), none⟩,
  ⟨some 13, .faddr 1 (.t 1), none⟩,
  ⟨some 14, .load 1 false (.t 13), none⟩,
  ⟨some 15, .len .slice (.t 14), none⟩,
  ⟨some 16, .bin .lss (.t 12) (.t 15), none⟩]
@[simp] def f476r6 : List ROper := [
  ⟨some 21, .mv (.t 4), none⟩,
  ⟨some 22, .faddr 1 (.t 1), none⟩,
  ⟨some 23, .load 1 false (.t 22), none⟩,
  ⟨some 24, .mv (.t 5), none⟩,
  ⟨some 25, .iaddr 1 (.t 23) (.t 24), none⟩,
  ⟨some 26, .load 1 false (.t 25), none⟩,
  ⟨some 27, .lit 1 false [(.str [])] 1 [(0, (.t 26))], none⟩,
  ⟨some 28, .append 1 false 16 (.t 21) (.t 27), none⟩,
  ⟨some 4, .mv (.t 28), none⟩]
@[simp] def f476r7 : List ROper := [
  ⟨some 17, .mv (.t 5), none⟩,
  ⟨some 18, .faddr 0 (.t 1), none⟩,
  ⟨some 19, .load 1 false (.t 18), none⟩,
  ⟨some 20, .bin .add (.t 17) (.t 19), none⟩,
  ⟨some 5, .mv (.t 20), none⟩]
def f476B0 : RC := (.seq (.seq (.region f476r5 [0, 1, 3, 4, 5, 7, 8, 16]) (.cond (.t 16) .skip (.exit 2))) (.seq (.block 3 (.region f476r6 [0, 1, 3, 4, 5, 7, 8])) (.region f476r7 [0, 1, 3, 4, 5, 7, 8])))
def f476L0 : RC := .loop [0, 1, 3, 4, 5, 7, 8] f476B0
@[simp] def f476r8 : List ROper := [
  ⟨some 29, .mv (.t 0), none⟩,
  ⟨some 30, .mv (.t 3), none⟩,
  ⟨some 31, .mv (.t 4), none⟩,
  ⟨some 32, .callv (.t 29) [(.t 30), (.t 31)], none⟩,
  ⟨some 33, .un .not (.t 32), none⟩]
@[simp] def f476r9 : List ROper := [
  ⟨some 34, .bin .add (.t 8) (.c (.int .i64 (.ofNat 1))), none⟩,
  ⟨some 8, .mv (.t 34), none⟩]
def f476B1 : RC := (.seq (.region f476r1 [0, 1, 7, 8, 9]) (.seq (.cond (.t 9) .skip (.exit 0)) (.seq (.block 1 (.seq (.region f476r2 [0, 1, 3, 7, 8]) (.seq (.region f476r3 [0, 1, 3, 4, 7, 8]) (.seq (.seq (.region f476r4 [0, 1, 3, 4, 5, 7, 8]) (.block 2 f476L0)) (.seq (.region f476r8 [0, 1, 7, 8, 33]) (.cond (.t 33) .ret .skip)))))) (.region f476r9 [0, 1, 7, 8]))))
def f476L1 : RC := .loop [0, 1, 7, 8] f476B1
def f476 : RFunc := ⟨[], (.seq (.region f476r0 [0, 1, 7, 8]) (.block 0 f476L1)), false⟩

/-! quire/quirelaw16.GridTells -/
@[simp] def f603r0 : List ROper := [
  ⟨some 3, .box 2 (.t 0), none⟩,
  ⟨some 6, .mv (.c (.bool false)), none⟩]
@[simp] def f603r1 : List ROper := [
  ⟨some 26, .faddr 1 (.t 3), none⟩,
  ⟨some 27, .load 1 false (.t 26), none⟩,
  ⟨some 28, .len .slice (.t 27), none⟩,
  ⟨some 29, .bin .gtr (.t 28) (.c (.int .i64 (.ofNat 100))), none⟩,
  ⟨some 30, .mv (.t 29), none⟩,
  ⟨some 31, .mv (.t 2), some (30, false)⟩,
  ⟨some 32, .len .str (.t 31), some (30, false)⟩,
  ⟨some 33, .bin .gtr (.t 32) (.c (.int .i64 (.ofNat 300))), some (30, false)⟩,
  ⟨some 34, .pick (.t 30) (.c (.bool true)) (.t 33), none⟩]
@[simp] def f603r2 : List ROper := [
  ⟨some 6, .mv (.c (.bool true)), none⟩]
@[simp] def f603r3 : List ROper := [
  ⟨some 7, .mv (.c (.int .i64 (.ofNat 0))), none⟩]
@[simp] def f603r4 : List ROper := [
  ⟨some 35, .mv (.t 7), none⟩,
  ⟨some 36, .faddr 1 (.t 3), none⟩,
  ⟨some 37, .load 1 false (.t 36), none⟩,
  ⟨some 38, .len .slice (.t 37), none⟩,
  ⟨some 39, .bin .lss (.t 35) (.t 38), none⟩]
@[simp] def f603r5 : List ROper := [
  ⟨some 42, .faddr 1 (.t 3), none⟩,
  ⟨some 43, .load 1 false (.t 42), none⟩,
  ⟨some 44, .mv (.t 7), none⟩,
  ⟨some 45, .iaddr 1 (.t 43) (.t 44), none⟩,
  ⟨some 46, .load 1 false (.t 45), none⟩,
  ⟨some 47, .len .str (.t 46), none⟩,
  ⟨some 48, .bin .gtr (.t 47) (.c (.int .i64 (.ofNat 300))), none⟩]
@[simp] def f603r6 : List ROper := [
  ⟨some 6, .mv (.c (.bool true)), none⟩]
@[simp] def f603r7 : List ROper := [
  ⟨some 40, .mv (.t 7), none⟩,
  ⟨some 41, .bin .add (.t 40) (.c (.int .i64 (.ofNat 1))), none⟩,
  ⟨some 7, .mv (.t 41), none⟩]
def f603B0 : RC := (.seq (.seq (.region f603r4 [1, 2, 3, 7, 39]) (.cond (.t 39) .skip (.exit 0))) (.seq (.block 1 (.seq (.region f603r5 [1, 2, 3, 7, 48]) (.cond (.t 48) (.seq (.region f603r6 [6]) .ret) .skip))) (.region f603r7 [1, 2, 3, 7])))
def f603L0 : RC := .loop [1, 2, 3, 7] f603B0
@[simp] def f603r8 : List ROper := [
  ⟨some 49, .load 2 true (.t 3), none⟩,
  ⟨some 50, .call 606 [(.t 49)], none⟩,
  ⟨some 8, .alloc [(.int .i64 (.ofNat 0)), (.list 0 0 .no false [])], none⟩,
  ⟨none, .store 2 (.t 8) (.t 50), none⟩]
@[simp] def f603r9 : List ROper := [
  ⟨some 52, .load 2 true (.t 8), none⟩,
  ⟨some 53, .call 607 [(.t 52)], none⟩,
  ⟨some 51, .mv (.t 53), none⟩,
  ⟨some 54, .extract (.t 51) 0, none⟩,
  ⟨some 55, .extract (.t 51) 1, none⟩,
  ⟨some 9, .mv (.t 54), none⟩,
  ⟨some 10, .mv (.t 55), none⟩]
@[simp] def f603r10 : List ROper := [
  ⟨some 57, .load 2 true (.t 3), none⟩,
  ⟨some 58, .call 608 [(.t 57)], none⟩,
  ⟨some 56, .mv (.t 58), none⟩,
  ⟨some 59, .extract (.t 56) 0, none⟩,
  ⟨some 60, .extract (.t 56) 1, none⟩,
  ⟨some 11, .mv (.t 59), none⟩,
  ⟨some 12, .mv (.t 60), none⟩]
@[simp] def f603r11 : List ROper := [
  ⟨some 62, .load 2 true (.t 8), none⟩,
  ⟨some 63, .call 100609 [(.t 62)], none⟩,
  ⟨some 61, .mv (.t 63), none⟩,
  ⟨some 64, .extract (.t 61) 0, none⟩,
  ⟨some 65, .extract (.t 61) 1, none⟩,
  ⟨some 13, .mv (.t 64), none⟩,
  ⟨some 14, .mv (.t 65), none⟩]
@[simp] def f603r12 : List ROper := [
  ⟨some 67, .load 2 true (.t 3), none⟩,
  ⟨some 68, .call 610 [(.t 67)], none⟩,
  ⟨some 66, .mv (.t 68), none⟩,
  ⟨some 69, .extract (.t 66) 0, none⟩,
  ⟨some 70, .extract (.t 66) 1, none⟩,
  ⟨some 15, .mv (.t 69), none⟩,
  ⟨some 16, .mv (.t 70), none⟩]
@[simp] def f603r13 : List ROper := [
  ⟨some 72, .load 2 true (.t 8), none⟩,
  ⟨some 73, .mv (.t 1), none⟩,
  ⟨some 74, .call 100430 [(.t 72), (.t 73)], none⟩,
  ⟨some 71, .mv (.t 74), none⟩,
  ⟨some 75, .extract (.t 71) 0, none⟩,
  ⟨some 76, .extract (.t 71) 1, none⟩,
  ⟨some 77, .extract (.t 71) 2, none⟩,
  ⟨some 17, .mv (.t 75), none⟩,
  ⟨some 18, .mv (.t 76), none⟩,
  ⟨some 19, .mv (.t 77), none⟩]
@[simp] def f603r14 : List ROper := [
  ⟨some 79, .load 2 true (.t 3), none⟩,
  ⟨some 80, .mv (.t 1), none⟩,
  ⟨some 81, .call 611 [(.t 79), (.t 80)], none⟩,
  ⟨some 78, .mv (.t 81), none⟩,
  ⟨some 82, .extract (.t 78) 0, none⟩,
  ⟨some 83, .extract (.t 78) 1, none⟩,
  ⟨some 84, .extract (.t 78) 2, none⟩,
  ⟨some 20, .mv (.t 82), none⟩,
  ⟨some 21, .mv (.t 83), none⟩,
  ⟨some 22, .mv (.t 84), none⟩]
@[simp] def f603r15 : List ROper := [
  ⟨some 85, .mv (.t 9), none⟩,
  ⟨some 86, .mv (.t 11), none⟩,
  ⟨some 87, .call 187 [(.t 85), (.t 86)], none⟩,
  ⟨some 88, .un .not (.t 87), none⟩,
  ⟨some 89, .mv (.t 88), none⟩,
  ⟨some 90, .mv (.t 10), some (89, false)⟩,
  ⟨some 91, .mv (.t 12), some (89, false)⟩,
  ⟨some 92, .bin .neq (.t 90) (.t 91), some (89, false)⟩,
  ⟨some 93, .pick (.t 89) (.c (.bool true)) (.t 92), none⟩,
  ⟨some 94, .mv (.t 93), none⟩,
  ⟨some 95, .mv (.t 13), some (94, false)⟩,
  ⟨some 96, .mv (.t 15), some (94, false)⟩,
  ⟨some 97, .call 187 [(.t 95), (.t 96)], some (94, false)⟩,
  ⟨some 98, .un .not (.t 97), some (94, false)⟩,
  ⟨some 99, .pick (.t 94) (.c (.bool true)) (.t 98), none⟩,
  ⟨some 100, .mv (.t 99), none⟩,
  ⟨some 101, .mv (.t 14), some (100, false)⟩,
  ⟨some 102, .mv (.t 16), some (100, false)⟩,
  ⟨some 103, .bin .neq (.t 101) (.t 102), some (100, false)⟩,
  ⟨some 104, .pick (.t 100) (.c (.bool true)) (.t 103), none⟩,
  ⟨some 105, .mv (.t 104), none⟩,
  ⟨some 106, .mv (.t 17), some (105, false)⟩,
  ⟨some 107, .mv (.t 20), some (105, false)⟩,
  ⟨some 108, .call 187 [(.t 106), (.t 107)], some (105, false)⟩,
  ⟨some 109, .un .not (.t 108), some (105, false)⟩,
  ⟨some 110, .pick (.t 105) (.c (.bool true)) (.t 109), none⟩,
  ⟨some 111, .mv (.t 110), none⟩,
  ⟨some 112, .mv (.t 18), some (111, false)⟩,
  ⟨some 113, .mv (.t 21), some (111, false)⟩,
  ⟨some 114, .eq .bool true (.t 112) (.t 113), some (111, false)⟩,
  ⟨some 115, .pick (.t 111) (.c (.bool true)) (.t 114), none⟩,
  ⟨some 116, .mv (.t 115), none⟩,
  ⟨some 117, .mv (.t 19), some (116, false)⟩,
  ⟨some 118, .mv (.t 22), some (116, false)⟩,
  ⟨some 119, .bin .neq (.t 117) (.t 118), some (116, false)⟩,
  ⟨some 120, .pick (.t 116) (.c (.bool true)) (.t 119), none⟩,
  ⟨some 121, .mv (.t 120), none⟩,
  ⟨some 122, .load 2 true (.t 8), some (121, false)⟩,
  ⟨some 123, .call 453 [(.t 122)], some (121, false)⟩,
  ⟨some 124, .load 2 true (.t 3), some (121, false)⟩,
  ⟨some 125, .call 612 [(.t 124)], some (121, false)⟩,
  ⟨some 126, .bin .neq (.t 123) (.t 125), some (121, false)⟩,
  ⟨some 127, .pick (.t 121) (.c (.bool true)) (.t 126), none⟩,
  ⟨some 128, .mv (.t 127), none⟩,
  ⟨some 129, .mv (.t 2), some (128, false)⟩,
  ⟨some 130, .call 458 [(.t 129)], some (128, false)⟩,
  ⟨some 131, .mv (.t 2), some (128, false)⟩,
  ⟨some 132, .call 613 [(.t 131)], some (128, false)⟩,
  ⟨some 133, .call 15 [(.t 130), (.t 132)], some (128, false)⟩,
  ⟨some 134, .un .not (.t 133), some (128, false)⟩,
  ⟨some 135, .pick (.t 128) (.c (.bool true)) (.t 134), none⟩]
@[simp] def f603r16 : List ROper := [
  ⟨some 6, .mv (.c (.bool false)), none⟩]
@[simp] def f603r17 : List ROper := [
  ⟨some 136, .mv (.t 17), none⟩,
  ⟨some 137, .call 614 [(.t 136)], none⟩]
@[simp] def f603r18 : List ROper := [
  ⟨some 138, .mv (.t 13), none⟩,
  ⟨some 139, .call 614 [(.t 138)], none⟩]
@[simp] def f603r19 : List ROper := [
  ⟨some 141, .load 2 true (.t 8), none⟩,
  ⟨some 142, .mv (.t 1), none⟩,
  ⟨some 143, .call 430 [(.t 141), (.t 142)], none⟩,
  ⟨some 140, .mv (.t 143), none⟩,
  ⟨some 144, .extract (.t 140) 0, none⟩,
  ⟨some 145, .extract (.t 140) 1, none⟩,
  ⟨some 146, .extract (.t 140) 2, none⟩,
  ⟨some 23, .mv (.t 144), none⟩,
  ⟨some 24, .mv (.t 145), none⟩,
  ⟨some 25, .mv (.t 146), none⟩]
@[simp] def f603r20 : List ROper := [
  ⟨some 147, .mv (.t 23), none⟩,
  ⟨some 148, .mv (.t 20), none⟩,
  ⟨some 149, .call 187 [(.t 147), (.t 148)], none⟩,
  ⟨some 150, .mv (.t 149), none⟩,
  ⟨some 151, .faddr 1 (.t 8), some (150, true)⟩,
  ⟨some 152, .load 1 false (.t 151), some (150, true)⟩,
  ⟨some 153, .faddr 1 (.t 3), some (150, true)⟩,
  ⟨some 154, .load 1 false (.t 153), some (150, true)⟩,
  ⟨some 155, .call 184 [(.t 152), (.t 154)], some (150, true)⟩,
  ⟨some 156, .pick (.t 150) (.t 155) (.c (.bool false)), none⟩,
  ⟨some 157, .mv (.t 156), none⟩,
  ⟨some 158, .call 615 [], some (157, true)⟩,
  ⟨some 159, .pick (.t 157) (.t 158) (.c (.bool false)), none⟩,
  ⟨some 6, .mv (.t 159), none⟩]
def f603 : RFunc := ⟨[.t 6], (.seq (.region f603r0 [1, 2, 3]) (.seq (.seq (.region f603r1 [1, 2, 3, 34]) (.cond (.t 34) (.seq (.region f603r2 [6]) .ret) .skip)) (.seq (.seq (.region f603r3 [1, 2, 3, 7]) (.block 0 f603L0)) (.seq (.region f603r8 [1, 2, 3, 8]) (.seq (.region f603r9 [1, 2, 3, 8, 9, 10]) (.seq (.region f603r10 [1, 2, 3, 8, 9, 10, 11, 12]) (.seq (.region f603r11 [1, 2, 3, 8, 9, 10, 11, 12, 13, 14]) (.seq (.region f603r12 [1, 2, 3, 8, 9, 10, 11, 12, 13, 14, 15, 16]) (.seq (.region f603r13 [1, 2, 3, 8, 9, 10, 11, 12, 13, 14, 15, 16, 17, 18, 19]) (.seq (.region f603r14 [1, 2, 3, 8, 9, 10, 11, 12, 13, 14, 15, 16, 17, 18, 19, 20, 21, 22]) (.seq (.seq (.dregion f603r15 [] [] [1, 3, 8, 13, 17, 20, 135]) (.cond (.t 135) (.seq (.region f603r16 [6]) .ret) .skip)) (.seq (.region f603r17 [1, 3, 8, 13, 20]) (.seq (.region f603r18 [1, 3, 8, 20]) (.seq (.region f603r19 [3, 8, 20, 23]) (.seq (.region f603r20 [6]) .ret))))))))))))))), true⟩

/-! quire/quirelaw16.lent -/
@[simp] def f606r0 : List ROper := [
  ⟨some 1, .box 2 (.t 0), none⟩,
  ⟨some 2, .alloc [(.int .i64 (.ofNat 0)), (.list 0 0 .no false [])], none⟩]
@[simp] def f606r1 : List ROper := [
  ⟨some 3, .faddr 0 (.t 1), none⟩,
  ⟨some 4, .load 1 false (.t 3), none⟩,
  ⟨some 5, .faddr 1 (.t 1), none⟩,
  ⟨some 6, .load 1 false (.t 5), none⟩,
  ⟨some 7, .call 182 [(.t 6)], none⟩,
  ⟨some 8, .build [(.int .i64 (.ofNat 0)), (.list 0 0 .no false [])] [(0, 1, (.t 4)), (1, 1, (.t 7))], none⟩,
  ⟨none, .store 2 (.t 2) (.t 8), none⟩]
def f606 : RFunc := ⟨[.cell 2 2 true], (.seq (.region f606r0 [1, 2]) (.seq (.dregion f606r1 [] [(1, [1])] [2]) .ret)), false⟩

/-! quire/grid.Least -/
@[simp] def f607r0 : List ROper := [
  ⟨some 1, .box 2 (.t 0), none⟩,
  ⟨some 2, .mv (.c (.list 0 0 .no false [])), none⟩,
  ⟨some 3, .mv (.c (.int .i64 (.ofNat 0))), none⟩]
@[simp] def f607r1 : List ROper := [
  ⟨some 7, .load 2 true (.t 1), none⟩,
  ⟨some 8, .call 453 [(.t 7)], none⟩,
  ⟨some 4, .mv (.t 8), none⟩]
@[simp] def f607r2 : List ROper := [
  ⟨some 9, .mv (.t 4), none⟩,
  ⟨some 10, .bin .neq (.t 9) (.c (.int .i64 (.ofNat 0))), none⟩]
@[simp] def f607r3 : List ROper := [
  ⟨some 11, .mv (.t 4), none⟩,
  ⟨some 2, .mv (.c (.list 0 0 .no false [])), none⟩,
  ⟨some 3, .mv (.t 11), none⟩]
@[simp] def f607r4 : List ROper := [
  ⟨some 13, .load 2 true (.t 1), none⟩,
  ⟨some 14, .call 454 [(.t 13)], none⟩,
  ⟨some 12, .mv (.t 14), none⟩,
  ⟨some 15, .extract (.t 12) 0, none⟩,
  ⟨some 16, .extract (.t 12) 1, none⟩,
  ⟨some 5, .mv (.t 15), none⟩,
  ⟨some 6, .mv (.t 16), none⟩]
@[simp] def f607r5 : List ROper := [
  ⟨some 17, .mv (.t 5), none⟩,
  ⟨some 2, .mv (.t 17), none⟩,
  ⟨some 3, .mv (.c (.int .i64 (.ofNat 0))), none⟩]
def f607 : RFunc := ⟨[.t 2, .t 3], (.seq (.region f607r0 [1]) (.seq (.seq (.region f607r1 [1, 4]) (.seq (.region f607r2 [1, 4, 10]) (.cond (.t 10) (.seq (.region f607r3 [2, 3]) .ret) .skip))) (.seq (.region f607r4 [5]) (.seq (.region f607r5 [2, 3]) .ret)))), true⟩

/-! quire/quireref16.Least -/
@[simp] def f608r0 : List ROper := [
  ⟨some 1, .box 2 (.t 0), none⟩,
  ⟨some 2, .mv (.c (.list 0 0 .no false [])), none⟩,
  ⟨some 3, .mv (.c (.int .i64 (.ofNat 0))), none⟩]
@[simp] def f608r1 : List ROper := [
  ⟨some 7, .load 2 true (.t 1), none⟩,
  ⟨some 8, .call 612 [(.t 7)], none⟩,
  ⟨some 4, .mv (.t 8), none⟩]
@[simp] def f608r2 : List ROper := [
  ⟨some 9, .mv (.t 4), none⟩,
  ⟨some 10, .bin .neq (.t 9) (.c (.int .i64 (.ofNat 0))), none⟩]
@[simp] def f608r3 : List ROper := [
  ⟨some 11, .mv (.t 4), none⟩,
  ⟨some 2, .mv (.c (.list 0 0 .no false [])), none⟩,
  ⟨some 3, .mv (.t 11), none⟩]
@[simp] def f608r4 : List ROper := [
  ⟨some 13, .load 2 true (.t 1), none⟩,
  ⟨some 14, .call 619 [(.t 13)], none⟩,
  ⟨some 12, .mv (.t 14), none⟩,
  ⟨some 15, .extract (.t 12) 0, none⟩,
  ⟨some 16, .extract (.t 12) 1, none⟩,
  ⟨some 5, .mv (.t 15), none⟩,
  ⟨some 6, .mv (.t 16), none⟩]
@[simp] def f608r5 : List ROper := [
  ⟨some 17, .mv (.t 5), none⟩,
  ⟨some 2, .mv (.t 17), none⟩,
  ⟨some 3, .mv (.c (.int .i64 (.ofNat 0))), none⟩]
def f608 : RFunc := ⟨[.t 2, .t 3], (.seq (.region f608r0 [1]) (.seq (.region f608r1 [1, 4]) (.seq (.seq (.region f608r2 [1, 4, 10]) (.cond (.t 10) (.seq (.region f608r3 [2, 3]) .ret) .skip)) (.seq (.region f608r4 [5]) (.seq (.region f608r5 [2, 3]) .ret))))), true⟩

/-! quire/grid.Most -/
@[simp] def f609r0 : List ROper := [
  ⟨some 1, .box 2 (.t 0), none⟩,
  ⟨some 2, .mv (.c (.list 0 0 .no false [])), none⟩,
  ⟨some 3, .mv (.c (.int .i64 (.ofNat 0))), none⟩]
@[simp] def f609r1 : List ROper := [
  ⟨some 7, .load 2 true (.t 1), none⟩,
  ⟨some 8, .call 453 [(.t 7)], none⟩,
  ⟨some 4, .mv (.t 8), none⟩]
@[simp] def f609r2 : List ROper := [
  ⟨some 9, .mv (.t 4), none⟩,
  ⟨some 10, .bin .neq (.t 9) (.c (.int .i64 (.ofNat 0))), none⟩]
@[simp] def f609r3 : List ROper := [
  ⟨some 11, .mv (.t 4), none⟩,
  ⟨some 2, .mv (.c (.list 0 0 .no false [])), none⟩,
  ⟨some 3, .mv (.t 11), none⟩]
@[simp] def f609r4 : List ROper := [
  ⟨some 13, .load 2 true (.t 1), none⟩,
  ⟨some 14, .call 454 [(.t 13)], none⟩,
  ⟨some 12, .mv (.t 14), none⟩,
  ⟨some 15, .extract (.t 12) 0, none⟩,
  ⟨some 16, .extract (.t 12) 1, none⟩,
  ⟨some 5, .mv (.t 15), none⟩,
  ⟨some 6, .mv (.t 16), none⟩]
@[simp] def f609r5 : List ROper := [
  ⟨some 17, .mv (.t 6), none⟩,
  ⟨some 2, .mv (.t 17), none⟩,
  ⟨some 3, .mv (.c (.int .i64 (.ofNat 0))), none⟩]
def f609 : RFunc := ⟨[.t 2, .t 3], (.seq (.region f609r0 [1]) (.seq (.seq (.region f609r1 [1, 4]) (.seq (.region f609r2 [1, 4, 10]) (.cond (.t 10) (.seq (.region f609r3 [2, 3]) .ret) .skip))) (.seq (.region f609r4 [6]) (.seq (.region f609r5 [2, 3]) .ret)))), true⟩

/-! quire/quireref16.Most -/
@[simp] def f610r0 : List ROper := [
  ⟨some 1, .box 2 (.t 0), none⟩,
  ⟨some 2, .mv (.c (.list 0 0 .no false [])), none⟩,
  ⟨some 3, .mv (.c (.int .i64 (.ofNat 0))), none⟩]
@[simp] def f610r1 : List ROper := [
  ⟨some 7, .load 2 true (.t 1), none⟩,
  ⟨some 8, .call 612 [(.t 7)], none⟩,
  ⟨some 4, .mv (.t 8), none⟩]
@[simp] def f610r2 : List ROper := [
  ⟨some 9, .mv (.t 4), none⟩,
  ⟨some 10, .bin .neq (.t 9) (.c (.int .i64 (.ofNat 0))), none⟩]
@[simp] def f610r3 : List ROper := [
  ⟨some 11, .mv (.t 4), none⟩,
  ⟨some 2, .mv (.c (.list 0 0 .no false [])), none⟩,
  ⟨some 3, .mv (.t 11), none⟩]
@[simp] def f610r4 : List ROper := [
  ⟨some 13, .load 2 true (.t 1), none⟩,
  ⟨some 14, .call 619 [(.t 13)], none⟩,
  ⟨some 12, .mv (.t 14), none⟩,
  ⟨some 15, .extract (.t 12) 0, none⟩,
  ⟨some 16, .extract (.t 12) 1, none⟩,
  ⟨some 5, .mv (.t 15), none⟩,
  ⟨some 6, .mv (.t 16), none⟩]
@[simp] def f610r5 : List ROper := [
  ⟨some 17, .mv (.t 6), none⟩,
  ⟨some 2, .mv (.t 17), none⟩,
  ⟨some 3, .mv (.c (.int .i64 (.ofNat 0))), none⟩]
def f610 : RFunc := ⟨[.t 2, .t 3], (.seq (.region f610r0 [1]) (.seq (.region f610r1 [1, 4]) (.seq (.seq (.region f610r2 [1, 4, 10]) (.cond (.t 10) (.seq (.region f610r3 [2, 3]) .ret) .skip)) (.seq (.region f610r4 [6]) (.seq (.region f610r5 [2, 3]) .ret))))), true⟩

/-! quire/quireref16.Widths -/
@[simp] def f611r0 : List ROper := [
  ⟨some 2, .box 2 (.t 0), none⟩,
  ⟨some 4, .mv (.c (.list 0 0 .no false [])), none⟩,
  ⟨some 5, .mv (.c (.bool false)), none⟩,
  ⟨some 6, .mv (.c (.int .i64 (.ofNat 0))), none⟩]
@[simp] def f611r1 : List ROper := [
  ⟨some 16, .load 2 true (.t 2), none⟩,
  ⟨some 17, .call 612 [(.t 16)], none⟩,
  ⟨some 7, .mv (.t 17), none⟩]
@[simp] def f611r2 : List ROper := [
  ⟨some 18, .mv (.t 7), none⟩,
  ⟨some 19, .bin .neq (.t 18) (.c (.int .i64 (.ofNat 0))), none⟩]
@[simp] def f611r3 : List ROper := [
  ⟨some 20, .mv (.t 7), none⟩,
  ⟨some 4, .mv (.c (.list 0 0 .no false [])), none⟩,
  ⟨some 5, .mv (.c (.bool false)), none⟩,
  ⟨some 6, .mv (.t 20), none⟩]
@[simp] def f611r4 : List ROper := [
  ⟨some 21, .mv (.t 1), none⟩,
  ⟨some 22, .bin .lss (.t 21) (.c (.int .i64 (.ofNat 0))), none⟩,
  ⟨some 23, .mv (.t 22), none⟩,
  ⟨some 24, .mv (.t 1), some (23, false)⟩,
  ⟨some 25, .bin .gtr (.t 24) (.c (.int .i64 (.ofNat 4095))), some (23, false)⟩,
  ⟨some 26, .pick (.t 23) (.c (.bool true)) (.t 25), none⟩]
@[simp] def f611r5 : List ROper := [
  ⟨some 4, .mv (.c (.list 0 0 .no false [])), none⟩,
  ⟨some 5, .mv (.c (.bool false)), none⟩,
  ⟨some 6, .mv (.c (.int .i64 (.ofNat 5))), none⟩]
@[simp] def f611r6 : List ROper := [
  ⟨some 28, .load 2 true (.t 2), none⟩,
  ⟨some 29, .call 619 [(.t 28)], none⟩,
  ⟨some 27, .mv (.t 29), none⟩,
  ⟨some 30, .extract (.t 27) 0, none⟩,
  ⟨some 31, .extract (.t 27) 1, none⟩,
  ⟨some 8, .mv (.t 30), none⟩,
  ⟨some 9, .mv (.t 31), none⟩]
@[simp] def f611r7 : List ROper := [
  ⟨some 32, .faddr 0 (.t 2), none⟩,
  ⟨some 33, .load 1 false (.t 32), none⟩,
  ⟨some 10, .mv (.t 33), none⟩]
@[simp] def f611r8 : List ROper := [
  ⟨some 34, .mv (.t 9), none⟩,
  ⟨some 35, .mv (.t 10), none⟩,
  ⟨some 36, .call 620 [(.t 34), (.t 35)], none⟩,
  ⟨some 37, .mv (.t 1), none⟩,
  ⟨some 38, .bin .leq (.t 36) (.t 37), none⟩]
@[simp] def f611r9 : List ROper := [
  ⟨some 39, .mv (.t 9), none⟩,
  ⟨some 4, .mv (.t 39), none⟩,
  ⟨some 5, .mv (.c (.bool false)), none⟩,
  ⟨some 6, .mv (.c (.int .i64 (.ofNat 0))), none⟩]
@[simp] def f611r10 : List ROper := [
  ⟨some 40, .mv (.t 8), none⟩,
  ⟨some 41, .mv (.t 10), none⟩,
  ⟨some 42, .call 620 [(.t 40), (.t 41)], none⟩,
  ⟨some 43, .mv (.t 1), none⟩,
  ⟨some 44, .bin .gtr (.t 42) (.t 43), none⟩,
  ⟨some 11, .mv (.t 44), none⟩]
@[simp] def f611r11 : List ROper := [
  ⟨some 12, .mv (.c (.list 0 0 .no false [])), none⟩]
@[simp] def f611r12 : List ROper := [
  ⟨some 13, .mv (.c (.int .i64 (.ofNat 0))), none⟩]
@[simp] def f611r13 : List ROper := [
  ⟨some 14, .mv (.c (.int .i64 (.ofNat 1))), none⟩]
@[simp] def f611r14 : List ROper := [
  ⟨some 45, .mv (.t 14), none⟩,
  ⟨some 46, .mv (.t 10), none⟩,
  ⟨some 47, .bin .leq (.t 45) (.t 46), none⟩]
@[simp] def f611r15 : List ROper := [
  ⟨some 15, .mv (.c (.int .i64 (.ofNat 0))), none⟩]
@[simp] def f611r16 : List ROper := [
  ⟨some 50, .mv (.t 11), none⟩]
@[simp] def f611r17 : List ROper := [
  ⟨some 51, .mv (.t 1), none⟩,
  ⟨some 52, .mv (.t 14), none⟩,
  ⟨some 53, .bin .mul (.t 51) (.t 52), none⟩,
  ⟨some 54, .mv (.t 10), none⟩,
  ⟨some 55, .bin .quo (.t 53) (.t 54), none⟩,
  ⟨some 15, .mv (.t 55), none⟩]
@[simp] def f611r18 : List ROper := [
  ⟨some 56, .mv (.t 8), none⟩,
  ⟨some 57, .mv (.t 14), none⟩,
  ⟨some 58, .call 620 [(.t 56), (.t 57)], none⟩,
  ⟨some 59, .mv (.t 1), none⟩,
  ⟨some 60, .mv (.t 8), none⟩,
  ⟨some 61, .mv (.t 10), none⟩,
  ⟨some 62, .call 620 [(.t 60), (.t 61)], none⟩,
  ⟨some 63, .bin .sub (.t 59) (.t 62), none⟩,
  ⟨some 64, .mv (.t 9), none⟩,
  ⟨some 65, .mv (.t 14), none⟩,
  ⟨some 66, .call 620 [(.t 64), (.t 65)], none⟩,
  ⟨some 67, .mv (.t 8), none⟩,
  ⟨some 68, .mv (.t 14), none⟩,
  ⟨some 69, .call 620 [(.t 67), (.t 68)], none⟩,
  ⟨some 70, .bin .sub (.t 66) (.t 69), none⟩,
  ⟨some 71, .bin .mul (.t 63) (.t 70), none⟩,
  ⟨some 72, .mv (.t 9), none⟩,
  ⟨some 73, .mv (.t 10), none⟩,
  ⟨some 74, .call 620 [(.t 72), (.t 73)], none⟩,
  ⟨some 75, .mv (.t 8), none⟩,
  ⟨some 76, .mv (.t 10), none⟩,
  ⟨some 77, .call 620 [(.t 75), (.t 76)], none⟩,
  ⟨some 78, .bin .sub (.t 74) (.t 77), none⟩,
  ⟨some 79, .bin .quo (.t 71) (.t 78), none⟩,
  ⟨some 80, .bin .add (.t 58) (.t 79), none⟩,
  ⟨some 15, .mv (.t 80), none⟩]
@[simp] def f611r19 : List ROper := [
  ⟨some 81, .mv (.t 12), none⟩,
  ⟨some 82, .mv (.t 15), none⟩,
  ⟨some 83, .mv (.t 13), none⟩,
  ⟨some 84, .bin .sub (.t 82) (.t 83), none⟩,
  ⟨some 85, .lit 1 false [(.int .i64 (.ofNat 0))] 1 [(0, (.t 84))], none⟩,
  ⟨some 86, .append 1 false 8 (.t 81) (.t 85), none⟩,
  ⟨some 12, .mv (.t 86), none⟩]
@[simp] def f611r20 : List ROper := [
  ⟨some 87, .mv (.t 15), none⟩,
  ⟨some 13, .mv (.t 87), none⟩]
@[simp] def f611r21 : List ROper := [
  ⟨some 48, .mv (.t 14), none⟩,
  ⟨some 49, .bin .add (.t 48) (.c (.int .i64 (.ofNat 1))), none⟩,
  ⟨some 14, .mv (.t 49), none⟩]
def f611B0 : RC := (.seq (.seq (.region f611r14 [1, 8, 9, 10, 11, 12, 13, 14, 47]) (.cond (.t 47) .skip (.exit 0))) (.seq (.block 1 (.seq (.region f611r15 [1, 8, 9, 10, 11, 12, 13, 14]) (.seq (.seq (.region f611r16 [1, 8, 9, 10, 11, 12, 13, 14, 50]) (.cond (.t 50) (.region f611r17 [1, 8, 9, 10, 11, 12, 13, 14, 15]) (.region f611r18 [1, 8, 9, 10, 11, 12, 13, 14, 15]))) (.seq (.region f611r19 [1, 8, 9, 10, 11, 12, 14, 15]) (.region f611r20 [1, 8, 9, 10, 11, 12, 13, 14]))))) (.region f611r21 [1, 8, 9, 10, 11, 12, 13, 14])))
def f611L0 : RC := .loop [1, 8, 9, 10, 11, 12, 13, 14] f611B0
@[simp] def f611r22 : List ROper := [
  ⟨some 88, .mv (.t 12), none⟩,
  ⟨some 89, .mv (.t 11), none⟩,
  ⟨some 4, .mv (.t 88), none⟩,
  ⟨some 5, .mv (.t 89), none⟩,
  ⟨some 6, .mv (.c (.int .i64 (.ofNat 0))), none⟩]
def f611 : RFunc := ⟨[.t 4, .t 5, .t 6], (.seq (.region f611r0 [1, 2]) (.seq (.region f611r1 [1, 2, 7]) (.seq (.seq (.region f611r2 [1, 2, 7, 19]) (.cond (.t 19) (.seq (.region f611r3 [4, 5, 6]) .ret) .skip)) (.seq (.seq (.region f611r4 [1, 2, 26]) (.cond (.t 26) (.seq (.region f611r5 [4, 5, 6]) .ret) .skip)) (.seq (.region f611r6 [1, 2, 8, 9]) (.seq (.region f611r7 [1, 8, 9, 10]) (.seq (.seq (.region f611r8 [1, 8, 9, 10, 38]) (.cond (.t 38) (.seq (.region f611r9 [4, 5, 6]) .ret) .skip)) (.seq (.region f611r10 [1, 8, 9, 10, 11]) (.seq (.region f611r11 [1, 8, 9, 10, 11, 12]) (.seq (.region f611r12 [1, 8, 9, 10, 11, 12, 13]) (.seq (.seq (.region f611r13 [1, 8, 9, 10, 11, 12, 13, 14]) (.block 0 f611L0)) (.seq (.region f611r22 [4, 5, 6]) .ret)))))))))))), true⟩

/-! quire/quireref16.Check -/
@[simp] def f612r0 : List ROper := [
  ⟨some 1, .box 2 (.t 0), none⟩,
  ⟨some 2, .mv (.c (.int .i64 (.ofNat 0))), none⟩]
@[simp] def f612r1 : List ROper := [
  ⟨some 7, .faddr 1 (.t 1), none⟩,
  ⟨some 8, .load 1 false (.t 7), none⟩,
  ⟨some 9, .len .slice (.t 8), none⟩,
  ⟨some 3, .mv (.t 9), none⟩]
@[simp] def f612r2 : List ROper := [
  ⟨some 10, .faddr 0 (.t 1), none⟩,
  ⟨some 11, .load 1 false (.t 10), none⟩,
  ⟨some 12, .bin .lss (.t 11) (.c (.int .i64 (.ofNat 1))), none⟩,
  ⟨some 13, .mv (.t 12), none⟩,
  ⟨some 14, .faddr 0 (.t 1), some (13, false)⟩,
  ⟨some 15, .load 1 false (.t 14), some (13, false)⟩,
  ⟨some 16, .bin .gtr (.t 15) (.c (.int .i64 (.ofNat 8))), some (13, false)⟩,
  ⟨some 17, .pick (.t 13) (.c (.bool true)) (.t 16), none⟩,
  ⟨some 18, .mv (.t 17), none⟩,
  ⟨some 19, .mv (.t 3), some (18, false)⟩,
  ⟨some 20, .bin .lss (.t 19) (.c (.int .i64 (.ofNat 1))), some (18, false)⟩,
  ⟨some 21, .pick (.t 18) (.c (.bool true)) (.t 20), none⟩,
  ⟨some 22, .mv (.t 21), none⟩,
  ⟨some 23, .mv (.t 3), some (22, false)⟩,
  ⟨some 24, .bin .gtr (.t 23) (.c (.int .i64 (.ofNat 64))), some (22, false)⟩,
  ⟨some 25, .pick (.t 22) (.c (.bool true)) (.t 24), none⟩,
  ⟨some 26, .mv (.t 25), none⟩,
  ⟨some 27, .mv (.t 3), some (26, false)⟩,
  ⟨some 28, .faddr 0 (.t 1), some (26, false)⟩,
  ⟨some 29, .load 1 false (.t 28), some (26, false)⟩,
  ⟨some 30, .bin .rem (.t 27) (.t 29), some (26, false)⟩,
  ⟨some 31, .bin .neq (.t 30) (.c (.int .i64 (.ofNat 0))), some (26, false)⟩,
  ⟨some 32, .pick (.t 26) (.c (.bool true)) (.t 31), none⟩]
@[simp] def f612r3 : List ROper := [
  ⟨some 2, .mv (.c (.int .i64 (.ofNat 2))), none⟩]
@[simp] def f612r4 : List ROper := [
  ⟨some 4, .mv (.c (.int .i64 (.ofNat 0))), none⟩]
@[simp] def f612r5 : List ROper := [
  ⟨some 33, .mv (.t 4), none⟩,
  ⟨some 34, .mv (.t 3), none⟩,
  ⟨some 35, .bin .lss (.t 33) (.t 34), none⟩]
@[simp] def f612r6 : List ROper := [
  ⟨some 38, .faddr 1 (.t 1), none⟩,
  ⟨some 39, .load 1 false (.t 38), none⟩,
  ⟨some 40, .mv (.t 4), none⟩,
  ⟨some 41, .iaddr 1 (.t 39) (.t 40), none⟩,
  ⟨some 42, .load 1 false (.t 41), none⟩,
  ⟨some 5, .mv (.t 42), none⟩]
@[simp] def f612r7 : List ROper := [
  ⟨some 43, .mv (.t 5), none⟩,
  ⟨some 44, .len .str (.t 43), none⟩,
  ⟨some 45, .bin .gtr (.t 44) (.c (.int .i64 (.ofNat 200))), none⟩]
@[simp] def f612r8 : List ROper := [
  ⟨some 2, .mv (.c (.int .i64 (.ofNat 2))), none⟩]
@[simp] def f612r9 : List ROper := [
  ⟨some 6, .mv (.c (.int .i64 (.ofNat 0))), none⟩]
@[simp] def f612r10 : List ROper := [
  ⟨some 46, .mv (.t 6), none⟩,
  ⟨some 47, .mv (.t 5), none⟩,
  ⟨some 48, .len .str (.t 47), none⟩,
  ⟨some 49, .bin .lss (.t 46) (.t 48), none⟩]
@[simp] def f612r11 : List ROper := [
  ⟨some 52, .mv (.t 5), none⟩,
  ⟨some 53, .mv (.t 6), none⟩,
  ⟨some 54, .index (.t 52) (.t 53), none⟩,
  ⟨some 55, .bin .lss (.t 54) (.c (.int .u8 (.ofNat 32))), none⟩,
  ⟨some 56, .mv (.t 55), none⟩,
  ⟨some 57, .mv (.t 5), some (56, false)⟩,
  ⟨some 58, .mv (.t 6), some (56, false)⟩,
  ⟨some 59, .index (.t 57) (.t 58), some (56, false)⟩,
  ⟨some 60, .bin .gtr (.t 59) (.c (.int .u8 (.ofNat 126))), some (56, false)⟩,
  ⟨some 61, .pick (.t 56) (.c (.bool true)) (.t 60), none⟩]
@[simp] def f612r12 : List ROper := [
  ⟨some 2, .mv (.c (.int .i64 (.ofNat 2))), none⟩]
@[simp] def f612r13 : List ROper := [
  ⟨some 50, .mv (.t 6), none⟩,
  ⟨some 51, .bin .add (.t 50) (.c (.int .i64 (.ofNat 1))), none⟩,
  ⟨some 6, .mv (.t 51), none⟩]
def f612B0 : RC := (.seq (.seq (.region f612r10 [1, 3, 4, 5, 6, 49]) (.cond (.t 49) .skip (.exit 2))) (.seq (.block 3 (.seq (.region f612r11 [1, 3, 4, 5, 6, 61]) (.cond (.t 61) (.seq (.region f612r12 [2]) .ret) .skip))) (.region f612r13 [1, 3, 4, 5, 6])))
def f612L0 : RC := .loop [1, 3, 4, 5, 6] f612B0
@[simp] def f612r14 : List ROper := [
  ⟨some 36, .mv (.t 4), none⟩,
  ⟨some 37, .bin .add (.t 36) (.c (.int .i64 (.ofNat 1))), none⟩,
  ⟨some 4, .mv (.t 37), none⟩]
def f612B1 : RC := (.seq (.seq (.region f612r5 [1, 3, 4, 35]) (.cond (.t 35) .skip (.exit 0))) (.seq (.block 1 (.seq (.region f612r6 [1, 3, 4, 5]) (.seq (.seq (.region f612r7 [1, 3, 4, 5, 45]) (.cond (.t 45) (.seq (.region f612r8 [2]) .ret) .skip)) (.seq (.region f612r9 [1, 3, 4, 5, 6]) (.block 2 f612L0))))) (.region f612r14 [1, 3, 4])))
def f612L1 : RC := .loop [1, 3, 4] f612B1
@[simp] def f612r15 : List ROper := [
  ⟨some 2, .mv (.c (.int .i64 (.ofNat 0))), none⟩]
def f612 : RFunc := ⟨[.t 2], (.seq (.region f612r0 [1]) (.seq (.region f612r1 [1, 3]) (.seq (.seq (.region f612r2 [1, 3, 32]) (.cond (.t 32) (.seq (.region f612r3 [2]) .ret) .skip)) (.seq (.seq (.region f612r4 [1, 3, 4]) (.block 0 f612L1)) (.seq (.region f612r15 [2]) .ret))))), true⟩

/-! quire/quireref16.Cell -/
@[simp] def f613r0 : List ROper := [
  ⟨some 2, .alloc [(.str []), (.list 0 0 .no false []), (.int .i64 (.ofNat 0)), (.int .i64 (.ofNat 0)), (.int .i64 (.ofNat 0)), (.int .i64 (.ofNat 0)), (.int .i64 (.ofNat 0)), (.int .i64 (.ofNat 0)), (.int .i64 (.ofNat 0)), (.int .i64 (.ofNat 0)), (.int .i64 (.ofNat 0)), (.int .i64 (.ofNat 0)), (.int .i64 (.ofNat 0)), (.int .i64 (.ofNat 0)), (.int .i64 (.ofNat 0)), (.int .i64 (.ofNat 0)), (.int .i64 (.ofNat 0)), (.int .i64 (.ofNat 0)), (.int .i64 (.ofNat 0)), (.str []), (.list 0 0 .no false [])], none⟩]
@[simp] def f613r1 : List ROper := [
  ⟨some 4, .mv (.t 0), none⟩,
  ⟨some 5, .build [(.int .i64 (.ofNat 0)), (.int .i64 (.ofNat 0)), (.int .i64 (.ofNat 0)), (.int .i64 (.ofNat 0)), (.int .i64 (.ofNat 0)), (.int .i64 (.ofNat 0)), (.int .i64 (.ofNat 0)), (.int .i64 (.ofNat 0)), (.int .i64 (.ofNat 0)), (.int .i64 (.ofNat 0)), (.int .i64 (.ofNat 0)), (.int .i64 (.ofNat 0)), (.int .i64 (.ofNat 0)), (.int .i64 (.ofNat 0)), (.int .i64 (.ofNat 0)), (.int .i64 (.ofNat 0)), (.int .i64 (.ofNat 0))] [(0, 1, (.c (.int .i64 (.ofNat 8)))), (1, 1, (.c (.int .i64 (.ofNat 10)))), (10, 1, (.c (.int .i64 (.ofNat 1)))), (11, 1, (.c (.int .i64 (.ofNat 1))))], none⟩,
  ⟨some 6, .build [(.str []), (.list 0 0 .no false []), (.int .i64 (.ofNat 0)), (.int .i64 (.ofNat 0)), (.int .i64 (.ofNat 0)), (.int .i64 (.ofNat 0)), (.int .i64 (.ofNat 0)), (.int .i64 (.ofNat 0)), (.int .i64 (.ofNat 0)), (.int .i64 (.ofNat 0)), (.int .i64 (.ofNat 0)), (.int .i64 (.ofNat 0)), (.int .i64 (.ofNat 0)), (.int .i64 (.ofNat 0)), (.int .i64 (.ofNat 0)), (.int .i64 (.ofNat 0)), (.int .i64 (.ofNat 0)), (.int .i64 (.ofNat 0)), (.int .i64 (.ofNat 0)), (.str []), (.list 0 0 .no false [])] [(0, 1, (.t 4)), (2, 17, (.t 5))], none⟩,
  ⟨some 3, .alloc [(.str []), (.list 0 0 .no false []), (.int .i64 (.ofNat 0)), (.int .i64 (.ofNat 0)), (.int .i64 (.ofNat 0)), (.int .i64 (.ofNat 0)), (.int .i64 (.ofNat 0)), (.int .i64 (.ofNat 0)), (.int .i64 (.ofNat 0)), (.int .i64 (.ofNat 0)), (.int .i64 (.ofNat 0)), (.int .i64 (.ofNat 0)), (.int .i64 (.ofNat 0)), (.int .i64 (.ofNat 0)), (.int .i64 (.ofNat 0)), (.int .i64 (.ofNat 0)), (.int .i64 (.ofNat 0)), (.int .i64 (.ofNat 0)), (.int .i64 (.ofNat 0)), (.str []), (.list 0 0 .no false [])], none⟩,
  ⟨none, .store 21 (.t 3) (.t 6), none⟩]
@[simp] def f613r2 : List ROper := [
  ⟨some 7, .mv (.t 0), none⟩,
  ⟨some 8, .len .str (.t 7), none⟩,
  ⟨some 9, .bin .gtr (.t 8) (.c (.int .i64 (.ofNat 0))), none⟩]
@[simp] def f613r3 : List ROper := [
  ⟨some 10, .mv (.t 0), none⟩,
  ⟨some 11, .len .str (.t 10), none⟩,
  ⟨some 12, .build [(.int .i64 (.ofNat 0)), (.int .i64 (.ofNat 0)), (.int .i64 (.ofNat 0)), (.int .i64 (.ofNat 0))] [(0, 1, (.t 11))], none⟩,
  ⟨some 13, .lit 4 true [(.int .i64 (.ofNat 0)), (.int .i64 (.ofNat 0)), (.int .i64 (.ofNat 0)), (.int .i64 (.ofNat 0))] 1 [(0, (.t 12))], none⟩,
  ⟨some 14, .faddr 1 (.t 3), none⟩,
  ⟨none, .store 1 (.t 14) (.t 13), none⟩]
@[simp] def f613r4 : List ROper := [
  ⟨some 15, .load 21 true (.t 3), none⟩,
  ⟨none, .store 21 (.t 2) (.t 15), none⟩]
def f613 : RFunc := ⟨[.cell 2 21 true], (.seq (.region f613r0 [0, 2]) (.seq (.region f613r1 [0, 2, 3]) (.seq (.seq (.region f613r2 [0, 2, 3, 9]) (.cond (.t 9) (.region f613r3 [2, 3]) .skip)) (.seq (.region f613r4 [2]) .ret)))), true⟩

/-! quire/quirekit.OverInts -/
@[simp] def f614r0 : List ROper := [
  ⟨some 4, .mv (.t 0), none⟩,
  ⟨some 5, .mv (.t 0), none⟩,
  ⟨some 6, .cap (.t 5), none⟩,
  ⟨some 7, .slice false 1 (.t 4) none (some (.t 6)) none, none⟩,
  ⟨some 2, .mv (.t 7), none⟩]
@[simp] def f614r1 : List ROper := [
  ⟨some 3, .mv (.c (.int .i64 (.ofNat 0))), none⟩]
@[simp] def f614r2 : List ROper := [
  ⟨some 8, .mv (.t 3), none⟩,
  ⟨some 9, .mv (.t 2), none⟩,
  ⟨some 10, .len .slice (.t 9), none⟩,
  ⟨some 11, .bin .lss (.t 8) (.t 10), none⟩]
@[simp] def f614r3 : List ROper := [
  ⟨some 14, .mv (.t 2), none⟩,
  ⟨some 15, .mv (.t 3), none⟩,
  ⟨some 16, .mv (.t 2), none⟩,
  ⟨some 17, .mv (.t 3), none⟩,
  ⟨some 18, .iaddr 1 (.t 16) (.t 17), none⟩,
  ⟨some 19, .load 1 false (.t 18), none⟩,
  ⟨some 20, .bin .xor (.t 19) (.c (.int .i64 (.ofNat 1))), none⟩,
  ⟨some 21, .iaddr 1 (.t 14) (.t 15), none⟩,
  ⟨none, .store 1 (.t 21) (.t 20), none⟩]
@[simp] def f614r4 : List ROper := [
  ⟨some 12, .mv (.t 3), none⟩,
  ⟨some 13, .bin .add (.t 12) (.c (.int .i64 (.ofNat 1))), none⟩,
  ⟨some 3, .mv (.t 13), none⟩]
def f614B0 : RC := (.seq (.seq (.region f614r2 [2, 3, 11]) (.cond (.t 11) .skip (.exit 0))) (.seq (.block 1 (.region f614r3 [2, 3])) (.region f614r4 [2, 3])))
def f614L0 : RC := .loop [2, 3] f614B0
def f614 : RFunc := ⟨[], (.seq (.region f614r0 [2]) (.seq (.region f614r1 [2, 3]) (.block 0 f614L0))), false⟩

/-! quire/quirelaw16.awake -/
@[simp] def f615r0 : List ROper := [
  ⟨some 0, .mv (.c (.bool false)), none⟩]
@[simp] def f615r1 : List ROper := [
  ⟨some 1, .lit 1 false [(.int .i64 (.ofNat 0))] 2 [(0, (.c (.int .i64 (.ofNat 16)))), (1, (.c (.int .i64 (.ofNat 14))))], none⟩,
  ⟨some 2, .call 617 [(.c (.int .i64 (.ofNat 30))), (.t 1), (.c (.bool false))], none⟩,
  ⟨some 0, .mv (.t 2), none⟩]
def f615 : RFunc := ⟨[.t 0], (.seq (.region f615r0 []) (.seq (.region f615r1 [0]) .ret)), true⟩

/-! quire/quirelaw16.example -/
@[simp] def f616r0 : List ROper := [
  ⟨some 0, .alloc [(.int .i64 (.ofNat 0)), (.list 0 0 .no false [])], none⟩]
@[simp] def f616r1 : List ROper := [
  ⟨some 1, .lit 1 false [(.str [])] 2 [(0, (.c (.str [97, 98, 32, 99]))), (1, (.c (.str [100, 100])))], none⟩,
  ⟨some 2, .build [(.int .i64 (.ofNat 0)), (.list 0 0 .no false [])] [(0, 1, (.c (.int .i64 (.ofNat 2)))), (1, 1, (.t 1))], none⟩,
  ⟨none, .store 2 (.t 0) (.t 2), none⟩]
def f616 : RFunc := ⟨[.cell 0 2 true], (.seq (.region f616r0 [0]) (.seq (.region f616r1 [0]) .ret)), true⟩

/-! quire/quirelaw16.wide -/
@[simp] def f617r0 : List ROper := [
  ⟨some 6, .mv (.c (.bool false)), none⟩]
@[simp] def f617r1 : List ROper := [
  ⟨some 11, .call 616 [], none⟩,
  ⟨some 12, .mv (.t 0), none⟩,
  ⟨some 13, .call 430 [(.t 11), (.t 12)], none⟩,
  ⟨some 10, .mv (.t 13), none⟩,
  ⟨some 14, .extract (.t 10) 0, none⟩,
  ⟨some 15, .extract (.t 10) 1, none⟩,
  ⟨some 16, .extract (.t 10) 2, none⟩,
  ⟨some 7, .mv (.t 14), none⟩,
  ⟨some 8, .mv (.t 15), none⟩,
  ⟨some 9, .mv (.t 16), none⟩]
@[simp] def f617r2 : List ROper := [
  ⟨some 17, .mv (.t 9), none⟩,
  ⟨some 18, .bin .eql (.t 17) (.c (.int .i64 (.ofNat 0))), none⟩,
  ⟨some 19, .mv (.t 18), none⟩,
  ⟨some 20, .mv (.t 8), some (19, true)⟩,
  ⟨some 21, .mv (.t 2), some (19, true)⟩,
  ⟨some 22, .eq .bool false (.t 20) (.t 21), some (19, true)⟩,
  ⟨some 23, .pick (.t 19) (.t 22) (.c (.bool false)), none⟩,
  ⟨some 24, .mv (.t 23), none⟩,
  ⟨some 25, .mv (.t 7), some (24, true)⟩,
  ⟨some 26, .mv (.t 1), some (24, true)⟩,
  ⟨some 27, .call 187 [(.t 25), (.t 26)], some (24, true)⟩,
  ⟨some 28, .pick (.t 24) (.t 27) (.c (.bool false)), none⟩,
  ⟨some 6, .mv (.t 28), none⟩]
def f617 : RFunc := ⟨[.t 6], (.seq (.region f617r0 [0, 1, 2]) (.seq (.region f617r1 [1, 2, 7, 8, 9]) (.seq (.region f617r2 [6]) .ret))), true⟩

end Go.D.Tab
