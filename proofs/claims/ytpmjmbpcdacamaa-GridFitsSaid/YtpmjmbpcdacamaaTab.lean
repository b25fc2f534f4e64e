/-
The code of what the laws reach, as a table of the small language. Printed by wip/gen.
-/
import Derived.Test.YtpmjmbpcdacamaaTab0
namespace Go.D.Tab

/-! quire/quirelaw16.GridKnown -/
@[simp] def f604r0 : List ROper := [
  ⟨some 0, .mv (.c (.bool false)), none⟩]
@[simp] def f604r1 : List ROper := [
  ⟨some 10, .call 616 [], none⟩,
  ⟨some 11, .call 607 [(.t 10)], none⟩,
  ⟨some 9, .mv (.t 11), none⟩,
  ⟨some 12, .extract (.t 9) 0, none⟩,
  ⟨some 13, .extract (.t 9) 1, none⟩,
  ⟨some 1, .mv (.t 12), none⟩,
  ⟨some 2, .mv (.t 13), none⟩]
@[simp] def f604r2 : List ROper := [
  ⟨some 15, .call 616 [], none⟩,
  ⟨some 16, .call 609 [(.t 15)], none⟩,
  ⟨some 14, .mv (.t 16), none⟩,
  ⟨some 17, .extract (.t 14) 0, none⟩,
  ⟨some 18, .extract (.t 14) 1, none⟩,
  ⟨some 3, .mv (.t 17), none⟩,
  ⟨some 4, .mv (.t 18), none⟩]
@[simp] def f604r3 : List ROper := [
  ⟨some 20, .call 616 [], none⟩,
  ⟨some 21, .call 430 [(.t 20), (.c (.int .i64 (.negSucc 0)))], none⟩,
  ⟨some 19, .mv (.t 21), none⟩,
  ⟨some 22, .extract (.t 19) 0, none⟩,
  ⟨some 23, .extract (.t 19) 1, none⟩,
  ⟨some 24, .extract (.t 19) 2, none⟩,
  ⟨some 5, .mv (.t 22), none⟩,
  ⟨some 6, .mv (.t 23), none⟩,
  ⟨some 7, .mv (.t 24), none⟩]
@[simp] def f604r4 : List ROper := [
  ⟨some 25, .lit 1 false [(.str [])] 3 [(0, (.c (.str [97]))), (1, (.c (.str [98]))), (2, (.c (.str [99])))], none⟩,
  ⟨some 26, .build [(.int .i64 (.ofNat 0)), (.list 0 0 .no false [])] [(0, 1, (.c (.int .i64 (.ofNat 2)))), (1, 1, (.t 25))], none⟩,
  ⟨some 27, .call 453 [(.t 26)], none⟩,
  ⟨some 28, .bin .eql (.t 27) (.c (.int .i64 (.ofNat 2))), none⟩,
  ⟨some 29, .mv (.t 28), none⟩,
  ⟨some 30, .build [(.int .i64 (.ofNat 0)), (.list 0 0 .no false [])] [], some (29, true)⟩,
  ⟨some 31, .call 453 [(.t 30)], some (29, true)⟩,
  ⟨some 32, .bin .eql (.t 31) (.c (.int .i64 (.ofNat 2))), some (29, true)⟩,
  ⟨some 33, .pick (.t 29) (.t 32) (.c (.bool false)), none⟩,
  ⟨some 34, .mv (.t 33), none⟩,
  ⟨some 35, .call 580 [(.c (.str [97])), (.c (.int .i64 (.ofNat 201)))], some (34, true)⟩,
  ⟨some 36, .lit 1 false [(.str [])] 1 [(0, (.t 35))], some (34, true)⟩,
  ⟨some 37, .build [(.int .i64 (.ofNat 0)), (.list 0 0 .no false [])] [(0, 1, (.c (.int .i64 (.ofNat 1)))), (1, 1, (.t 36))], some (34, true)⟩,
  ⟨some 38, .call 453 [(.t 37)], some (34, true)⟩,
  ⟨some 39, .bin .eql (.t 38) (.c (.int .i64 (.ofNat 2))), some (34, true)⟩,
  ⟨some 40, .pick (.t 34) (.t 39) (.c (.bool false)), none⟩,
  ⟨some 8, .mv (.t 40), none⟩]
@[simp] def f604r5 : List ROper := [
  ⟨some 41, .call 615 [], none⟩,
  ⟨some 42, .mv (.t 41), none⟩,
  ⟨some 43, .mv (.t 1), some (42, true)⟩,
  ⟨some 44, .lit 1 false [(.int .i64 (.ofNat 0))] 2 [(0, (.c (.int .i64 (.ofNat 14)))), (1, (.c (.int .i64 (.ofNat 14))))], some (42, true)⟩,
  ⟨some 45, .call 187 [(.t 43), (.t 44)], some (42, true)⟩,
  ⟨some 46, .pick (.t 42) (.t 45) (.c (.bool false)), none⟩,
  ⟨some 47, .mv (.t 46), none⟩,
  ⟨some 48, .mv (.t 2), some (47, true)⟩,
  ⟨some 49, .bin .eql (.t 48) (.c (.int .i64 (.ofNat 0))), some (47, true)⟩,
  ⟨some 50, .pick (.t 47) (.t 49) (.c (.bool false)), none⟩,
  ⟨some 51, .mv (.t 50), none⟩,
  ⟨some 52, .mv (.t 3), some (51, true)⟩,
  ⟨some 53, .lit 1 false [(.int .i64 (.ofNat 0))] 2 [(0, (.c (.int .i64 (.ofNat 22)))), (1, (.c (.int .i64 (.ofNat 14))))], some (51, true)⟩,
  ⟨some 54, .call 187 [(.t 52), (.t 53)], some (51, true)⟩,
  ⟨some 55, .pick (.t 51) (.t 54) (.c (.bool false)), none⟩,
  ⟨some 56, .mv (.t 55), none⟩,
  ⟨some 57, .mv (.t 4), some (56, true)⟩,
  ⟨some 58, .bin .eql (.t 57) (.c (.int .i64 (.ofNat 0))), some (56, true)⟩,
  ⟨some 59, .pick (.t 56) (.t 58) (.c (.bool false)), none⟩,
  ⟨some 60, .mv (.t 59), none⟩,
  ⟨some 61, .lit 1 false [(.int .i64 (.ofNat 0))] 2 [(0, (.c (.int .i64 (.ofNat 22)))), (1, (.c (.int .i64 (.ofNat 14))))], some (60, true)⟩,
  ⟨some 62, .call 617 [(.c (.int .i64 (.ofNat 50))), (.t 61), (.c (.bool false))], some (60, true)⟩,
  ⟨some 63, .pick (.t 60) (.t 62) (.c (.bool false)), none⟩,
  ⟨some 64, .mv (.t 63), none⟩,
  ⟨some 65, .lit 1 false [(.int .i64 (.ofNat 0))] 2 [(0, (.c (.int .i64 (.ofNat 22)))), (1, (.c (.int .i64 (.ofNat 14))))], some (64, true)⟩,
  ⟨some 66, .call 617 [(.c (.int .i64 (.ofNat 36))), (.t 65), (.c (.bool false))], some (64, true)⟩,
  ⟨some 67, .pick (.t 64) (.t 66) (.c (.bool false)), none⟩,
  ⟨some 68, .mv (.t 67), none⟩,
  ⟨some 69, .lit 1 false [(.int .i64 (.ofNat 0))] 2 [(0, (.c (.int .i64 (.ofNat 14)))), (1, (.c (.int .i64 (.ofNat 14))))], some (68, true)⟩,
  ⟨some 70, .call 617 [(.c (.int .i64 (.ofNat 28))), (.t 69), (.c (.bool false))], some (68, true)⟩,
  ⟨some 71, .pick (.t 68) (.t 70) (.c (.bool false)), none⟩,
  ⟨some 72, .mv (.t 71), none⟩,
  ⟨some 73, .lit 1 false [(.int .i64 (.ofNat 0))] 2 [(0, (.c (.int .i64 (.ofNat 10)))), (1, (.c (.int .i64 (.ofNat 11))))], some (72, true)⟩,
  ⟨some 74, .call 617 [(.c (.int .i64 (.ofNat 21))), (.t 73), (.c (.bool true))], some (72, true)⟩,
  ⟨some 75, .pick (.t 72) (.t 74) (.c (.bool false)), none⟩,
  ⟨some 76, .mv (.t 75), none⟩,
  ⟨some 77, .mv (.t 7), some (76, true)⟩,
  ⟨some 78, .bin .eql (.t 77) (.c (.int .i64 (.ofNat 5))), some (76, true)⟩,
  ⟨some 79, .pick (.t 76) (.t 78) (.c (.bool false)), none⟩,
  ⟨some 80, .mv (.t 79), none⟩,
  ⟨some 81, .mv (.t 8), some (80, true)⟩,
  ⟨some 82, .pick (.t 80) (.t 81) (.c (.bool false)), none⟩,
  ⟨some 0, .mv (.t 82), none⟩]
def f604 : RFunc := ⟨[.t 0], (.seq (.region f604r0 []) (.seq (.region f604r1 [1, 2]) (.seq (.region f604r2 [1, 2, 3, 4]) (.seq (.region f604r3 [1, 2, 3, 4, 7]) (.seq (.region f604r4 [1, 2, 3, 4, 7, 8]) (.seq (.region f604r5 [0]) .ret)))))), true⟩

/-! quire/quirelaw16.GridFits -/
@[simp] def f605r0 : List ROper := [
  ⟨some 2, .box 2 (.t 0), none⟩,
  ⟨some 4, .mv (.c (.bool false)), none⟩]
@[simp] def f605r1 : List ROper := [
  ⟨some 14, .call 604 [], none⟩,
  ⟨some 5, .mv (.t 14), none⟩]
@[simp] def f605r2 : List ROper := [
  ⟨some 15, .faddr 1 (.t 2), none⟩,
  ⟨some 16, .load 1 false (.t 15), none⟩,
  ⟨some 17, .len .slice (.t 16), none⟩,
  ⟨some 18, .bin .gtr (.t 17) (.c (.int .i64 (.ofNat 100))), none⟩]
@[simp] def f605r3 : List ROper := [
  ⟨some 19, .mv (.t 5), none⟩,
  ⟨some 4, .mv (.t 19), none⟩]
@[simp] def f605r4 : List ROper := [
  ⟨some 21, .load 2 true (.t 2), none⟩,
  ⟨some 22, .mv (.t 1), none⟩,
  ⟨some 23, .call 430 [(.t 21), (.t 22)], none⟩,
  ⟨some 20, .mv (.t 23), none⟩,
  ⟨some 24, .extract (.t 20) 0, none⟩,
  ⟨some 25, .extract (.t 20) 1, none⟩,
  ⟨some 26, .extract (.t 20) 2, none⟩,
  ⟨some 6, .mv (.t 24), none⟩,
  ⟨some 7, .mv (.t 25), none⟩,
  ⟨some 8, .mv (.t 26), none⟩]
@[simp] def f605r5 : List ROper := [
  ⟨some 27, .mv (.t 8), none⟩,
  ⟨some 28, .bin .neq (.t 27) (.c (.int .i64 (.ofNat 0))), none⟩]
@[simp] def f605r6 : List ROper := [
  ⟨some 29, .mv (.t 5), none⟩,
  ⟨some 4, .mv (.t 29), none⟩]
@[simp] def f605r7 : List ROper := [
  ⟨some 31, .load 2 true (.t 2), none⟩,
  ⟨some 32, .call 607 [(.t 31)], none⟩,
  ⟨some 30, .mv (.t 32), none⟩,
  ⟨some 33, .extract (.t 30) 0, none⟩,
  ⟨some 34, .extract (.t 30) 1, none⟩,
  ⟨some 9, .mv (.t 33), none⟩,
  ⟨some 10, .mv (.t 34), none⟩]
@[simp] def f605r8 : List ROper := [
  ⟨some 36, .load 2 true (.t 2), none⟩,
  ⟨some 37, .call 609 [(.t 36)], none⟩,
  ⟨some 35, .mv (.t 37), none⟩,
  ⟨some 38, .extract (.t 35) 0, none⟩,
  ⟨some 39, .extract (.t 35) 1, none⟩,
  ⟨some 11, .mv (.t 38), none⟩,
  ⟨some 12, .mv (.t 39), none⟩]
@[simp] def f605r9 : List ROper := [
  ⟨some 40, .mv (.t 10), none⟩,
  ⟨some 41, .bin .neq (.t 40) (.c (.int .i64 (.ofNat 0))), none⟩,
  ⟨some 42, .mv (.t 41), none⟩,
  ⟨some 43, .mv (.t 12), some (42, false)⟩,
  ⟨some 44, .bin .neq (.t 43) (.c (.int .i64 (.ofNat 0))), some (42, false)⟩,
  ⟨some 45, .pick (.t 42) (.c (.bool true)) (.t 44), none⟩,
  ⟨some 46, .mv (.t 45), none⟩,
  ⟨some 47, .mv (.t 6), some (46, false)⟩,
  ⟨some 48, .len .slice (.t 47), some (46, false)⟩,
  ⟨some 49, .faddr 0 (.t 2), some (46, false)⟩,
  ⟨some 50, .load 1 false (.t 49), some (46, false)⟩,
  ⟨some 51, .bin .neq (.t 48) (.t 50), some (46, false)⟩,
  ⟨some 52, .pick (.t 46) (.c (.bool true)) (.t 51), none⟩,
  ⟨some 53, .mv (.t 52), none⟩,
  ⟨some 54, .mv (.t 9), some (53, false)⟩,
  ⟨some 55, .len .slice (.t 54), some (53, false)⟩,
  ⟨some 56, .faddr 0 (.t 2), some (53, false)⟩,
  ⟨some 57, .load 1 false (.t 56), some (53, false)⟩,
  ⟨some 58, .bin .neq (.t 55) (.t 57), some (53, false)⟩,
  ⟨some 59, .pick (.t 53) (.c (.bool true)) (.t 58), none⟩,
  ⟨some 60, .mv (.t 59), none⟩,
  ⟨some 61, .mv (.t 11), some (60, false)⟩,
  ⟨some 62, .len .slice (.t 61), some (60, false)⟩,
  ⟨some 63, .faddr 0 (.t 2), some (60, false)⟩,
  ⟨some 64, .load 1 false (.t 63), some (60, false)⟩,
  ⟨some 65, .bin .neq (.t 62) (.t 64), some (60, false)⟩,
  ⟨some 66, .pick (.t 60) (.c (.bool true)) (.t 65), none⟩,
  ⟨some 67, .mv (.t 66), none⟩,
  ⟨some 68, .mv (.t 6), some (67, false)⟩,
  ⟨some 69, .call 618 [(.t 68)], some (67, false)⟩,
  ⟨some 70, .mv (.t 1), some (67, false)⟩,
  ⟨some 71, .bin .gtr (.t 69) (.t 70), some (67, false)⟩,
  ⟨some 72, .pick (.t 67) (.c (.bool true)) (.t 71), none⟩,
  ⟨some 73, .mv (.t 72), none⟩,
  ⟨some 74, .mv (.t 11), some (73, false)⟩,
  ⟨some 75, .call 618 [(.t 74)], some (73, false)⟩,
  ⟨some 76, .mv (.t 1), some (73, false)⟩,
  ⟨some 77, .bin .geq (.t 75) (.t 76), some (73, false)⟩,
  ⟨some 78, .mv (.t 77), some (73, false)⟩,
  ⟨some 79, .mv (.t 6), some (78, true)⟩,
  ⟨some 80, .call 618 [(.t 79)], some (78, true)⟩,
  ⟨some 81, .mv (.t 1), some (78, true)⟩,
  ⟨some 82, .bin .neq (.t 80) (.t 81), some (78, true)⟩,
  ⟨some 83, .pick (.t 78) (.t 82) (.c (.bool false)), some (73, false)⟩,
  ⟨some 84, .pick (.t 73) (.c (.bool true)) (.t 83), none⟩,
  ⟨some 85, .mv (.t 84), none⟩,
  ⟨some 86, .mv (.t 7), some (85, false)⟩,
  ⟨some 87, .mv (.t 9), some (85, false)⟩,
  ⟨some 88, .call 618 [(.t 87)], some (85, false)⟩,
  ⟨some 89, .mv (.t 1), some (85, false)⟩,
  ⟨some 90, .bin .gtr (.t 88) (.t 89), some (85, false)⟩,
  ⟨some 91, .eq .bool true (.t 86) (.t 90), some (85, false)⟩,
  ⟨some 92, .pick (.t 85) (.c (.bool true)) (.t 91), none⟩]
@[simp] def f605r10 : List ROper := [
  ⟨some 4, .mv (.c (.bool false)), none⟩]
@[simp] def f605r11 : List ROper := [
  ⟨some 13, .mv (.c (.int .i64 (.ofNat 0))), none⟩]
@[simp] def f605r12 : List ROper := [
  ⟨some 93, .mv (.t 13), none⟩,
  ⟨some 94, .mv (.t 6), none⟩,
  ⟨some 95, .len .slice (.t 94), none⟩,
  ⟨some 96, .bin .lss (.t 93) (.t 95), none⟩]
@[simp] def f605r13 : List ROper := [
  ⟨some 99, .mv (.t 6), none⟩,
  ⟨some 100, .mv (.t 13), none⟩,
  ⟨some 101, .iaddr 1 (.t 99) (.t 100), none⟩,
  ⟨some 102, .load 1 false (.t 101), none⟩,
  ⟨some 103, .bin .lss (.t 102) (.c (.int .i64 (.ofNat 0))), none⟩,
  ⟨some 104, .mv (.t 103), none⟩,
  ⟨some 105, .mv (.t 7), some (104, false)⟩,
  ⟨some 106, .un .not (.t 105), some (104, false)⟩,
  ⟨some 107, .mv (.t 106), some (104, false)⟩,
  ⟨some 108, .mv (.t 6), some (107, true)⟩,
  ⟨some 109, .mv (.t 13), some (107, true)⟩,
  ⟨some 110, .iaddr 1 (.t 108) (.t 109), some (107, true)⟩,
  ⟨some 111, .load 1 false (.t 110), some (107, true)⟩,
  ⟨some 112, .mv (.t 9), some (107, true)⟩,
  ⟨some 113, .mv (.t 13), some (107, true)⟩,
  ⟨some 114, .iaddr 1 (.t 112) (.t 113), some (107, true)⟩,
  ⟨some 115, .load 1 false (.t 114), some (107, true)⟩,
  ⟨some 116, .bin .lss (.t 111) (.t 115), some (107, true)⟩,
  ⟨some 117, .mv (.t 116), some (107, true)⟩,
  ⟨some 118, .mv (.t 6), some (117, false)⟩,
  ⟨some 119, .mv (.t 13), some (117, false)⟩,
  ⟨some 120, .iaddr 1 (.t 118) (.t 119), some (117, false)⟩,
  ⟨some 121, .load 1 false (.t 120), some (117, false)⟩,
  ⟨some 122, .mv (.t 11), some (117, false)⟩,
  ⟨some 123, .mv (.t 13), some (117, false)⟩,
  ⟨some 124, .iaddr 1 (.t 122) (.t 123), some (117, false)⟩,
  ⟨some 125, .load 1 false (.t 124), some (117, false)⟩,
  ⟨some 126, .bin .gtr (.t 121) (.t 125), some (117, false)⟩,
  ⟨some 127, .pick (.t 117) (.c (.bool true)) (.t 126), some (107, true)⟩,
  ⟨some 128, .pick (.t 107) (.t 127) (.c (.bool false)), some (104, false)⟩,
  ⟨some 129, .pick (.t 104) (.c (.bool true)) (.t 128), none⟩]
@[simp] def f605r14 : List ROper := [
  ⟨some 4, .mv (.c (.bool false)), none⟩]
@[simp] def f605r15 : List ROper := [
  ⟨some 97, .mv (.t 13), none⟩,
  ⟨some 98, .bin .add (.t 97) (.c (.int .i64 (.ofNat 1))), none⟩,
  ⟨some 13, .mv (.t 98), none⟩]
def f605B0 : RC := (.seq (.seq (.region f605r12 [5, 6, 7, 9, 11, 13, 96]) (.cond (.t 96) .skip (.exit 0))) (.seq (.block 1 (.seq (.dregion f605r13 [] [] [5, 6, 7, 9, 11, 13, 129]) (.cond (.t 129) (.seq (.region f605r14 [4]) .ret) .skip))) (.region f605r15 [5, 6, 7, 9, 11, 13])))
def f605L0 : RC := .loop [5, 6, 7, 9, 11, 13] f605B0
@[simp] def f605r16 : List ROper := [
  ⟨some 130, .mv (.t 5), none⟩,
  ⟨some 4, .mv (.t 130), none⟩]
def f605 : RFunc := ⟨[.t 4], (.seq (.region f605r0 [1, 2]) (.seq (.region f605r1 [1, 2, 5]) (.seq (.seq (.region f605r2 [1, 2, 5, 18]) (.cond (.t 18) (.seq (.region f605r3 [4]) .ret) .skip)) (.seq (.region f605r4 [1, 2, 5, 6, 7, 8]) (.seq (.seq (.region f605r5 [1, 2, 5, 6, 7, 28]) (.cond (.t 28) (.seq (.region f605r6 [4]) .ret) .skip)) (.seq (.region f605r7 [1, 2, 5, 6, 7, 9, 10]) (.seq (.region f605r8 [1, 2, 5, 6, 7, 9, 10, 11, 12]) (.seq (.seq (.region f605r9 [5, 6, 7, 9, 11, 92]) (.cond (.t 92) (.seq (.region f605r10 [4]) .ret) .skip)) (.seq (.seq (.region f605r11 [5, 6, 7, 9, 11, 13]) (.block 0 f605L0)) (.seq (.region f605r16 [4]) .ret)))))))))), true⟩

/-! quire/quirelaw16.lent -/
@[simp] def f606r0 : List ROper := [
  ⟨some 1, .box 2 (.t 0), none⟩,
  ⟨some 2, .alloc [(.int .i64 (.ofNat 0)), (.list 0 0 .no false [])], none⟩]
@[simp] def f606r1 : List ROper := [
  ⟨some 3, .faddr 0 (.t 1), none⟩,
  ⟨some 4, .load 1 false (.t 3), none⟩,
  ⟨some 5, .faddr 1 (.t 1), none⟩,
  ⟨some 6, .load 1 false (.t 5), none⟩,
  ⟨some 7, .call 182 [(.t 6)], none⟩,
  ⟨some 8, .build [(.int .i64 (.ofNat 0)), (.list 0 0 .no false [])] [(0, 1, (.t 4)), (1, 1, (.t 7))], none⟩,
  ⟨none, .store 2 (.t 2) (.t 8), none⟩]
def f606 : RFunc := ⟨[.cell 2 2 true], (.seq (.region f606r0 [1, 2]) (.seq (.dregion f606r1 [] [] [2]) .ret)), true⟩

/-! quire/grid.Least -/
@[simp] def f607r0 : List ROper := [
  ⟨some 1, .box 2 (.t 0), none⟩,
  ⟨some 2, .mv (.c (.list 0 0 .no false [])), none⟩,
  ⟨some 3, .mv (.c (.int .i64 (.ofNat 0))), none⟩]
@[simp] def f607r1 : List ROper := [
  ⟨some 7, .load 2 true (.t 1), none⟩,
  ⟨some 8, .call 453 [(.t 7)], none⟩,
  ⟨some 4, .mv (.t 8), none⟩]
@[simp] def f607r2 : List ROper := [
  ⟨some 9, .mv (.t 4), none⟩,
  ⟨some 10, .bin .neq (.t 9) (.c (.int .i64 (.ofNat 0))), none⟩]
@[simp] def f607r3 : List ROper := [
  ⟨some 11, .mv (.t 4), none⟩,
  ⟨some 2, .mv (.c (.list 0 0 .no false [])), none⟩,
  ⟨some 3, .mv (.t 11), none⟩]
@[simp] def f607r4 : List ROper := [
  ⟨some 13, .load 2 true (.t 1), none⟩,
  ⟨some 14, .call 454 [(.t 13)], none⟩,
  ⟨some 12, .mv (.t 14), none⟩,
  ⟨some 15, .extract (.t 12) 0, none⟩,
  ⟨some 16, .extract (.t 12) 1, none⟩,
  ⟨some 5, .mv (.t 15), none⟩,
  ⟨some 6, .mv (.t 16), none⟩]
@[simp] def f607r5 : List ROper := [
  ⟨some 17, .mv (.t 5), none⟩,
  ⟨some 2, .mv (.t 17), none⟩,
  ⟨some 3, .mv (.c (.int .i64 (.ofNat 0))), none⟩]
def f607 : RFunc := ⟨[.t 2, .t 3], (.seq (.region f607r0 [1]) (.seq (.seq (.region f607r1 [1, 4]) (.seq (.region f607r2 [1, 4, 10]) (.cond (.t 10) (.seq (.region f607r3 [2, 3]) .ret) .skip))) (.seq (.region f607r4 [5]) (.seq (.region f607r5 [2, 3]) .ret)))), true⟩

/-! quire/quireref16.Least -/
@[simp] def f608r0 : List ROper := [
  ⟨some 1, .box 2 (.t 0), none⟩,
  ⟨some 2, .mv (.c (.list 0 0 .no false [])), none⟩,
  ⟨some 3, .mv (.c (.int .i64 (.ofNat 0))), none⟩]
@[simp] def f608r1 : List ROper := [
  ⟨some 7, .load 2 true (.t 1), none⟩,
  ⟨some 8, .call 612 [(.t 7)], none⟩,
  ⟨some 4, .mv (.t 8), none⟩]
@[simp] def f608r2 : List ROper := [
  ⟨some 9, .mv (.t 4), none⟩,
  ⟨some 10, .bin .neq (.t 9) (.c (.int .i64 (.ofNat 0))), none⟩]
@[simp] def f608r3 : List ROper := [
  ⟨some 11, .mv (.t 4), none⟩,
  ⟨some 2, .mv (.c (.list 0 0 .no false [])), none⟩,
  ⟨some 3, .mv (.t 11), none⟩]
@[simp] def f608r4 : List ROper := [
  ⟨some 13, .load 2 true (.t 1), none⟩,
  ⟨some 14, .call 619 [(.t 13)], none⟩,
  ⟨some 12, .mv (.t 14), none⟩,
  ⟨some 15, .extract (.t 12) 0, none⟩,
  ⟨some 16, .extract (.t 12) 1, none⟩,
  ⟨some 5, .mv (.t 15), none⟩,
  ⟨some 6, .mv (.t 16), none⟩]
@[simp] def f608r5 : List ROper := [
  ⟨some 17, .mv (.t 5), none⟩,
  ⟨some 2, .mv (.t 17), none⟩,
  ⟨some 3, .mv (.c (.int .i64 (.ofNat 0))), none⟩]
def f608 : RFunc := ⟨[.t 2, .t 3], (.seq (.region f608r0 [1]) (.seq (.region f608r1 [1, 4]) (.seq (.seq (.region f608r2 [1, 4, 10]) (.cond (.t 10) (.seq (.region f608r3 [2, 3]) .ret) .skip)) (.seq (.region f608r4 [5]) (.seq (.region f608r5 [2, 3]) .ret))))), true⟩

/-! quire/grid.Most -/
@[simp] def f609r0 : List ROper := [
  ⟨some 1, .box 2 (.t 0), none⟩,
  ⟨some 2, .mv (.c (.list 0 0 .no false [])), none⟩,
  ⟨some 3, .mv (.c (.int .i64 (.ofNat 0))), none⟩]
@[simp] def f609r1 : List ROper := [
  ⟨some 7, .load 2 true (.t 1), none⟩,
  ⟨some 8, .call 453 [(.t 7)], none⟩,
  ⟨some 4, .mv (.t 8), none⟩]
@[simp] def f609r2 : List ROper := [
  ⟨some 9, .mv (.t 4), none⟩,
  ⟨some 10, .bin .neq (.t 9) (.c (.int .i64 (.ofNat 0))), none⟩]
@[simp] def f609r3 : List ROper := [
  ⟨some 11, .mv (.t 4), none⟩,
  ⟨some 2, .mv (.c (.list 0 0 .no false [])), none⟩,
  ⟨some 3, .mv (.t 11), none⟩]
@[simp] def f609r4 : List ROper := [
  ⟨some 13, .load 2 true (.t 1), none⟩,
  ⟨some 14, .call 454 [(.t 13)], none⟩,
  ⟨some 12, .mv (.t 14), none⟩,
  ⟨some 15, .extract (.t 12) 0, none⟩,
  ⟨some 16, .extract (.t 12) 1, none⟩,
  ⟨some 5, .mv (.t 15), none⟩,
  ⟨some 6, .mv (.t 16), none⟩]
@[simp] def f609r5 : List ROper := [
  ⟨some 17, .mv (.t 6), none⟩,
  ⟨some 2, .mv (.t 17), none⟩,
  ⟨some 3, .mv (.c (.int .i64 (.ofNat 0))), none⟩]
def f609 : RFunc := ⟨[.t 2, .t 3], (.seq (.region f609r0 [1]) (.seq (.seq (.region f609r1 [1, 4]) (.seq (.region f609r2 [1, 4, 10]) (.cond (.t 10) (.seq (.region f609r3 [2, 3]) .ret) .skip))) (.seq (.region f609r4 [6]) (.seq (.region f609r5 [2, 3]) .ret)))), true⟩

/-! quire/quireref16.Most -/
@[simp] def f610r0 : List ROper := [
  ⟨some 1, .box 2 (.t 0), none⟩,
  ⟨some 2, .mv (.c (.list 0 0 .no false [])), none⟩,
  ⟨some 3, .mv (.c (.int .i64 (.ofNat 0))), none⟩]
@[simp] def f610r1 : List ROper := [
  ⟨some 7, .load 2 true (.t 1), none⟩,
  ⟨some 8, .call 612 [(.t 7)], none⟩,
  ⟨some 4, .mv (.t 8), none⟩]
@[simp] def f610r2 : List ROper := [
  ⟨some 9, .mv (.t 4), none⟩,
  ⟨some 10, .bin .neq (.t 9) (.c (.int .i64 (.ofNat 0))), none⟩]
@[simp] def f610r3 : List ROper := [
  ⟨some 11, .mv (.t 4), none⟩,
  ⟨some 2, .mv (.c (.list 0 0 .no false [])), none⟩,
  ⟨some 3, .mv (.t 11), none⟩]
@[simp] def f610r4 : List ROper := [
  ⟨some 13, .load 2 true (.t 1), none⟩,
  ⟨some 14, .call 619 [(.t 13)], none⟩,
  ⟨some 12, .mv (.t 14), none⟩,
  ⟨some 15, .extract (.t 12) 0, none⟩,
  ⟨some 16, .extract (.t 12) 1, none⟩,
  ⟨some 5, .mv (.t 15), none⟩,
  ⟨some 6, .mv (.t 16), none⟩]
@[simp] def f610r5 : List ROper := [
  ⟨some 17, .mv (.t 6), none⟩,
  ⟨some 2, .mv (.t 17), none⟩,
  ⟨some 3, .mv (.c (.int .i64 (.ofNat 0))), none⟩]
def f610 : RFunc := ⟨[.t 2, .t 3], (.seq (.region f610r0 [1]) (.seq (.region f610r1 [1, 4]) (.seq (.seq (.region f610r2 [1, 4, 10]) (.cond (.t 10) (.seq (.region f610r3 [2, 3]) .ret) .skip)) (.seq (.region f610r4 [6]) (.seq (.region f610r5 [2, 3]) .ret))))), true⟩

/-! quire/quireref16.Widths -/
@[simp] def f611r0 : List ROper := [
  ⟨some 2, .box 2 (.t 0), none⟩,
  ⟨some 4, .mv (.c (.list 0 0 .no false [])), none⟩,
  ⟨some 5, .mv (.c (.bool false)), none⟩,
  ⟨some 6, .mv (.c (.int .i64 (.ofNat 0))), none⟩]
@[simp] def f611r1 : List ROper := [
  ⟨some 16, .load 2 true (.t 2), none⟩,
  ⟨some 17, .call 612 [(.t 16)], none⟩,
  ⟨some 7, .mv (.t 17), none⟩]
@[simp] def f611r2 : List ROper := [
  ⟨some 18, .mv (.t 7), none⟩,
  ⟨some 19, .bin .neq (.t 18) (.c (.int .i64 (.ofNat 0))), none⟩]
@[simp] def f611r3 : List ROper := [
  ⟨some 20, .mv (.t 7), none⟩,
  ⟨some 4, .mv (.c (.list 0 0 .no false [])), none⟩,
  ⟨some 5, .mv (.c (.bool false)), none⟩,
  ⟨some 6, .mv (.t 20), none⟩]
@[simp] def f611r4 : List ROper := [
  ⟨some 21, .mv (.t 1), none⟩,
  ⟨some 22, .bin .lss (.t 21) (.c (.int .i64 (.ofNat 0))), none⟩,
  ⟨some 23, .mv (.t 22), none⟩,
  ⟨some 24, .mv (.t 1), some (23, false)⟩,
  ⟨some 25, .bin .gtr (.t 24) (.c (.int .i64 (.ofNat 4095))), some (23, false)⟩,
  ⟨some 26, .pick (.t 23) (.c (.bool true)) (.t 25), none⟩]
@[simp] def f611r5 : List ROper := [
  ⟨some 4, .mv (.c (.list 0 0 .no false [])), none⟩,
  ⟨some 5, .mv (.c (.bool false)), none⟩,
  ⟨some 6, .mv (.c (.int .i64 (.ofNat 5))), none⟩]
@[simp] def f611r6 : List ROper := [
  ⟨some 28, .load 2 true (.t 2), none⟩,
  ⟨some 29, .call 619 [(.t 28)], none⟩,
  ⟨some 27, .mv (.t 29), none⟩,
  ⟨some 30, .extract (.t 27) 0, none⟩,
  ⟨some 31, .extract (.t 27) 1, none⟩,
  ⟨some 8, .mv (.t 30), none⟩,
  ⟨some 9, .mv (.t 31), none⟩]
@[simp] def f611r7 : List ROper := [
  ⟨some 32, .faddr 0 (.t 2), none⟩,
  ⟨some 33, .load 1 false (.t 32), none⟩,
  ⟨some 10, .mv (.t 33), none⟩]
@[simp] def f611r8 : List ROper := [
  ⟨some 34, .mv (.t 9), none⟩,
  ⟨some 35, .mv (.t 10), none⟩,
  ⟨some 36, .call 620 [(.t 34), (.t 35)], none⟩,
  ⟨some 37, .mv (.t 1), none⟩,
  ⟨some 38, .bin .leq (.t 36) (.t 37), none⟩]
@[simp] def f611r9 : List ROper := [
  ⟨some 39, .mv (.t 9), none⟩,
  ⟨some 4, .mv (.t 39), none⟩,
  ⟨some 5, .mv (.c (.bool false)), none⟩,
  ⟨some 6, .mv (.c (.int .i64 (.ofNat 0))), none⟩]
@[simp] def f611r10 : List ROper := [
  ⟨some 40, .mv (.t 8), none⟩,
  ⟨some 41, .mv (.t 10), none⟩,
  ⟨some 42, .call 620 [(.t 40), (.t 41)], none⟩,
  ⟨some 43, .mv (.t 1), none⟩,
  ⟨some 44, .bin .gtr (.t 42) (.t 43), none⟩,
  ⟨some 11, .mv (.t 44), none⟩]
@[simp] def f611r11 : List ROper := [
  ⟨some 12, .mv (.c (.list 0 0 .no false [])), none⟩]
@[simp] def f611r12 : List ROper := [
  ⟨some 13, .mv (.c (.int .i64 (.ofNat 0))), none⟩]
@[simp] def f611r13 : List ROper := [
  ⟨some 14, .mv (.c (.int .i64 (.ofNat 1))), none⟩]
@[simp] def f611r14 : List ROper := [
  ⟨some 45, .mv (.t 14), none⟩,
  ⟨some 46, .mv (.t 10), none⟩,
  ⟨some 47, .bin .leq (.t 45) (.t 46), none⟩]
@[simp] def f611r15 : List ROper := [
  ⟨some 15, .mv (.c (.int .i64 (.ofNat 0))), none⟩]
@[simp] def f611r16 : List ROper := [
  ⟨some 50, .mv (.t 11), none⟩]
@[simp] def f611r17 : List ROper := [
  ⟨some 51, .mv (.t 1), none⟩,
  ⟨some 52, .mv (.t 14), none⟩,
  ⟨some 53, .bin .mul (.t 51) (.t 52), none⟩,
  ⟨some 54, .mv (.t 10), none⟩,
  ⟨some 55, .bin .quo (.t 53) (.t 54), none⟩,
  ⟨some 15, .mv (.t 55), none⟩]
@[simp] def f611r18 : List ROper := [
  ⟨some 56, .mv (.t 8), none⟩,
  ⟨some 57, .mv (.t 14), none⟩,
  ⟨some 58, .call 620 [(.t 56), (.t 57)], none⟩,
  ⟨some 59, .mv (.t 1), none⟩,
  ⟨some 60, .mv (.t 8), none⟩,
  ⟨some 61, .mv (.t 10), none⟩,
  ⟨some 62, .call 620 [(.t 60), (.t 61)], none⟩,
  ⟨some 63, .bin .sub (.t 59) (.t 62), none⟩,
  ⟨some 64, .mv (.t 9), none⟩,
  ⟨some 65, .mv (.t 14), none⟩,
  ⟨some 66, .call 620 [(.t 64), (.t 65)], none⟩,
  ⟨some 67, .mv (.t 8), none⟩,
  ⟨some 68, .mv (.t 14), none⟩,
  ⟨some 69, .call 620 [(.t 67), (.t 68)], none⟩,
  ⟨some 70, .bin .sub (.t 66) (.t 69), none⟩,
  ⟨some 71, .bin .mul (.t 63) (.t 70), none⟩,
  ⟨some 72, .mv (.t 9), none⟩,
  ⟨some 73, .mv (.t 10), none⟩,
  ⟨some 74, .call 620 [(.t 72), (.t 73)], none⟩,
  ⟨some 75, .mv (.t 8), none⟩,
  ⟨some 76, .mv (.t 10), none⟩,
  ⟨some 77, .call 620 [(.t 75), (.t 76)], none⟩,
  ⟨some 78, .bin .sub (.t 74) (.t 77), none⟩,
  ⟨some 79, .bin .quo (.t 71) (.t 78), none⟩,
  ⟨some 80, .bin .add (.t 58) (.t 79), none⟩,
  ⟨some 15, .mv (.t 80), none⟩]
@[simp] def f611r19 : List ROper := [
  ⟨some 81, .mv (.t 12), none⟩,
  ⟨some 82, .mv (.t 15), none⟩,
  ⟨some 83, .mv (.t 13), none⟩,
  ⟨some 84, .bin .sub (.t 82) (.t 83), none⟩,
  ⟨some 85, .lit 1 false [(.int .i64 (.ofNat 0))] 1 [(0, (.t 84))], none⟩,
  ⟨some 86, .append 1 false 8 (.t 81) (.t 85), none⟩,
  ⟨some 12, .mv (.t 86), none⟩]
@[simp] def f611r20 : List ROper := [
  ⟨some 87, .mv (.t 15), none⟩,
  ⟨some 13, .mv (.t 87), none⟩]
@[simp] def f611r21 : List ROper := [
  ⟨some 48, .mv (.t 14), none⟩,
  ⟨some 49, .bin .add (.t 48) (.c (.int .i64 (.ofNat 1))), none⟩,
  ⟨some 14, .mv (.t 49), none⟩]
def f611B0 : RC := (.seq (.seq (.region f611r14 [1, 8, 9, 10, 11, 12, 13, 14, 47]) (.cond (.t 47) .skip (.exit 0))) (.seq (.block 1 (.seq (.region f611r15 [1, 8, 9, 10, 11, 12, 13, 14]) (.seq (.seq (.region f611r16 [1, 8, 9, 10, 11, 12, 13, 14, 50]) (.cond (.t 50) (.region f611r17 [1, 8, 9, 10, 11, 12, 13, 14, 15]) (.region f611r18 [1, 8, 9, 10, 11, 12, 13, 14, 15]))) (.seq (.region f611r19 [1, 8, 9, 10, 11, 12, 14, 15]) (.region f611r20 [1, 8, 9, 10, 11, 12, 13, 14]))))) (.region f611r21 [1, 8, 9, 10, 11, 12, 13, 14])))
def f611L0 : RC := .loop [1, 8, 9, 10, 11, 12, 13, 14] f611B0
@[simp] def f611r22 : List ROper := [
  ⟨some 88, .mv (.t 12), none⟩,
  ⟨some 89, .mv (.t 11), none⟩,
  ⟨some 4, .mv (.t 88), none⟩,
  ⟨some 5, .mv (.t 89), none⟩,
  ⟨some 6, .mv (.c (.int .i64 (.ofNat 0))), none⟩]
def f611 : RFunc := ⟨[.t 4, .t 5, .t 6], (.seq (.region f611r0 [1, 2]) (.seq (.region f611r1 [1, 2, 7]) (.seq (.seq (.region f611r2 [1, 2, 7, 19]) (.cond (.t 19) (.seq (.region f611r3 [4, 5, 6]) .ret) .skip)) (.seq (.seq (.region f611r4 [1, 2, 26]) (.cond (.t 26) (.seq (.region f611r5 [4, 5, 6]) .ret) .skip)) (.seq (.region f611r6 [1, 2, 8, 9]) (.seq (.region f611r7 [1, 8, 9, 10]) (.seq (.seq (.region f611r8 [1, 8, 9, 10, 38]) (.cond (.t 38) (.seq (.region f611r9 [4, 5, 6]) .ret) .skip)) (.seq (.region f611r10 [1, 8, 9, 10, 11]) (.seq (.region f611r11 [1, 8, 9, 10, 11, 12]) (.seq (.region f611r12 [1, 8, 9, 10, 11, 12, 13]) (.seq (.seq (.region f611r13 [1, 8, 9, 10, 11, 12, 13, 14]) (.block 0 f611L0)) (.seq (.region f611r22 [4, 5, 6]) .ret)))))))))))), true⟩

/-! quire/quireref16.Check -/
@[simp] def f612r0 : List ROper := [
  ⟨some 1, .box 2 (.t 0), none⟩,
  ⟨some 2, .mv (.c (.int .i64 (.ofNat 0))), none⟩]
@[simp] def f612r1 : List ROper := [
  ⟨some 7, .faddr 1 (.t 1), none⟩,
  ⟨some 8, .load 1 false (.t 7), none⟩,
  ⟨some 9, .len .slice (.t 8), none⟩,
  ⟨some 3, .mv (.t 9), none⟩]
@[simp] def f612r2 : List ROper := [
  ⟨some 10, .faddr 0 (.t 1), none⟩,
  ⟨some 11, .load 1 false (.t 10), none⟩,
  ⟨some 12, .bin .lss (.t 11) (.c (.int .i64 (.ofNat 1))), none⟩,
  ⟨some 13, .mv (.t 12), none⟩,
  ⟨some 14, .faddr 0 (.t 1), some (13, false)⟩,
  ⟨some 15, .load 1 false (.t 14), some (13, false)⟩,
  ⟨some 16, .bin .gtr (.t 15) (.c (.int .i64 (.ofNat 8))), some (13, false)⟩,
  ⟨some 17, .pick (.t 13) (.c (.bool true)) (.t 16), none⟩,
  ⟨some 18, .mv (.t 17), none⟩,
  ⟨some 19, .mv (.t 3), some (18, false)⟩,
  ⟨some 20, .bin .lss (.t 19) (.c (.int .i64 (.ofNat 1))), some (18, false)⟩,
  ⟨some 21, .pick (.t 18) (.c (.bool true)) (.t 20), none⟩,
  ⟨some 22, .mv (.t 21), none⟩,
  ⟨some 23, .mv (.t 3), some (22, false)⟩,
  ⟨some 24, .bin .gtr (.t 23) (.c (.int .i64 (.ofNat 64))), some (22, false)⟩,
  ⟨some 25, .pick (.t 22) (.c (.bool true)) (.t 24), none⟩,
  ⟨some 26, .mv (.t 25), none⟩,
  ⟨some 27, .mv (.t 3), some (26, false)⟩,
  ⟨some 28, .faddr 0 (.t 1), some (26, false)⟩,
  ⟨some 29, .load 1 false (.t 28), some (26, false)⟩,
  ⟨some 30, .bin .rem (.t 27) (.t 29), some (26, false)⟩,
  ⟨some 31, .bin .neq (.t 30) (.c (.int .i64 (.ofNat 0))), some (26, false)⟩,
  ⟨some 32, .pick (.t 26) (.c (.bool true)) (.t 31), none⟩]
@[simp] def f612r3 : List ROper := [
  ⟨some 2, .mv (.c (.int .i64 (.ofNat 2))), none⟩]
@[simp] def f612r4 : List ROper := [
  ⟨some 4, .mv (.c (.int .i64 (.ofNat 0))), none⟩]
@[simp] def f612r5 : List ROper := [
  ⟨some 33, .mv (.t 4), none⟩,
  ⟨some 34, .mv (.t 3), none⟩,
  ⟨some 35, .bin .lss (.t 33) (.t 34), none⟩]
@[simp] def f612r6 : List ROper := [
  ⟨some 38, .faddr 1 (.t 1), none⟩,
  ⟨some 39, .load 1 false (.t 38), none⟩,
  ⟨some 40, .mv (.t 4), none⟩,
  ⟨some 41, .iaddr 1 (.t 39) (.t 40), none⟩,
  ⟨some 42, .load 1 false (.t 41), none⟩,
  ⟨some 5, .mv (.t 42), none⟩]
@[simp] def f612r7 : List ROper := [
  ⟨some 43, .mv (.t 5), none⟩,
  ⟨some 44, .len .str (.t 43), none⟩,
  ⟨some 45, .bin .gtr (.t 44) (.c (.int .i64 (.ofNat 200))), none⟩]
@[simp] def f612r8 : List ROper := [
  ⟨some 2, .mv (.c (.int .i64 (.ofNat 2))), none⟩]
@[simp] def f612r9 : List ROper := [
  ⟨some 6, .mv (.c (.int .i64 (.ofNat 0))), none⟩]
@[simp] def f612r10 : List ROper := [
  ⟨some 46, .mv (.t 6), none⟩,
  ⟨some 47, .mv (.t 5), none⟩,
  ⟨some 48, .len .str (.t 47), none⟩,
  ⟨some 49, .bin .lss (.t 46) (.t 48), none⟩]
@[simp] def f612r11 : List ROper := [
  ⟨some 52, .mv (.t 5), none⟩,
  ⟨some 53, .mv (.t 6), none⟩,
  ⟨some 54, .index (.t 52) (.t 53), none⟩,
  ⟨some 55, .bin .lss (.t 54) (.c (.int .u8 (.ofNat 32))), none⟩,
  ⟨some 56, .mv (.t 55), none⟩,
  ⟨some 57, .mv (.t 5), some (56, false)⟩,
  ⟨some 58, .mv (.t 6), some (56, false)⟩,
  ⟨some 59, .index (.t 57) (.t 58), some (56, false)⟩,
  ⟨some 60, .bin .gtr (.t 59) (.c (.int .u8 (.ofNat 126))), some (56, false)⟩,
  ⟨some 61, .pick (.t 56) (.c (.bool true)) (.t 60), none⟩]
@[simp] def f612r12 : List ROper := [
  ⟨some 2, .mv (.c (.int .i64 (.ofNat 2))), none⟩]
@[simp] def f612r13 : List ROper := [
  ⟨some 50, .mv (.t 6), none⟩,
  ⟨some 51, .bin .add (.t 50) (.c (.int .i64 (.ofNat 1))), none⟩,
  ⟨some 6, .mv (.t 51), none⟩]
def f612B0 : RC := (.seq (.seq (.region f612r10 [1, 3, 4, 5, 6, 49]) (.cond (.t 49) .skip (.exit 2))) (.seq (.block 3 (.seq (.region f612r11 [1, 3, 4, 5, 6, 61]) (.cond (.t 61) (.seq (.region f612r12 [2]) .ret) .skip))) (.region f612r13 [1, 3, 4, 5, 6])))
def f612L0 : RC := .loop [1, 3, 4, 5, 6] f612B0
@[simp] def f612r14 : List ROper := [
  ⟨some 36, .mv (.t 4), none⟩,
  ⟨some 37, .bin .add (.t 36) (.c (.int .i64 (.ofNat 1))), none⟩,
  ⟨some 4, .mv (.t 37), none⟩]
def f612B1 : RC := (.seq (.seq (.region f612r5 [1, 3, 4, 35]) (.cond (.t 35) .skip (.exit 0))) (.seq (.block 1 (.seq (.region f612r6 [1, 3, 4, 5]) (.seq (.seq (.region f612r7 [1, 3, 4, 5, 45]) (.cond (.t 45) (.seq (.region f612r8 [2]) .ret) .skip)) (.seq (.region f612r9 [1, 3, 4, 5, 6]) (.block 2 f612L0))))) (.region f612r14 [1, 3, 4])))
def f612L1 : RC := .loop [1, 3, 4] f612B1
@[simp] def f612r15 : List ROper := [
  ⟨some 2, .mv (.c (.int .i64 (.ofNat 0))), none⟩]
def f612 : RFunc := ⟨[.t 2], (.seq (.region f612r0 [1]) (.seq (.region f612r1 [1, 3]) (.seq (.seq (.region f612r2 [1, 3, 32]) (.cond (.t 32) (.seq (.region f612r3 [2]) .ret) .skip)) (.seq (.seq (.region f612r4 [1, 3, 4]) (.block 0 f612L1)) (.seq (.region f612r15 [2]) .ret))))), true⟩

/-! quire/quireref16.Cell -/
@[simp] def f613r0 : List ROper := [
  ⟨some 2, .alloc [(.str []), (.list 0 0 .no false []), (.int .i64 (.ofNat 0)), (.int .i64 (.ofNat 0)), (.int .i64 (.ofNat 0)), (.int .i64 (.ofNat 0)), (.int .i64 (.ofNat 0)), (.int .i64 (.ofNat 0)), (.int .i64 (.ofNat 0)), (.int .i64 (.ofNat 0)), (.int .i64 (.ofNat 0)), (.int .i64 (.ofNat 0)), (.int .i64 (.ofNat 0)), (.int .i64 (.ofNat 0)), (.int .i64 (.ofNat 0)), (.int .i64 (.ofNat 0)), (.int .i64 (.ofNat 0)), (.int .i64 (.ofNat 0)), (.int .i64 (.ofNat 0)), (.str []), (.list 0 0 .no false [])], none⟩]
@[simp] def f613r1 : List ROper := [
  ⟨some 4, .mv (.t 0), none⟩,
  ⟨some 5, .build [(.int .i64 (.ofNat 0)), (.int .i64 (.ofNat 0)), (.int .i64 (.ofNat 0)), (.int .i64 (.ofNat 0)), (.int .i64 (.ofNat 0)), (.int .i64 (.ofNat 0)), (.int .i64 (.ofNat 0)), (.int .i64 (.ofNat 0)), (.int .i64 (.ofNat 0)), (.int .i64 (.ofNat 0)), (.int .i64 (.ofNat 0)), (.int .i64 (.ofNat 0)), (.int .i64 (.ofNat 0)), (.int .i64 (.ofNat 0)), (.int .i64 (.ofNat 0)), (.int .i64 (.ofNat 0)), (.int .i64 (.ofNat 0))] [(0, 1, (.c (.int .i64 (.ofNat 8)))), (1, 1, (.c (.int .i64 (.ofNat 10)))), (10, 1, (.c (.int .i64 (.ofNat 1)))), (11, 1, (.c (.int .i64 (.ofNat 1))))], none⟩,
  ⟨some 6, .build [(.str []), (.list 0 0 .no false []), (.int .i64 (.ofNat 0)), (.int .i64 (.ofNat 0)), (.int .i64 (.ofNat 0)), (.int .i64 (.ofNat 0)), (.int .i64 (.ofNat 0)), (.int .i64 (.ofNat 0)), (.int .i64 (.ofNat 0)), (.int .i64 (.ofNat 0)), (.int .i64 (.ofNat 0)), (.int .i64 (.ofNat 0)), (.int .i64 (.ofNat 0)), (.int .i64 (.ofNat 0)), (.int .i64 (.ofNat 0)), (.int .i64 (.ofNat 0)), (.int .i64 (.ofNat 0)), (.int .i64 (.ofNat 0)), (.int .i64 (.ofNat 0)), (.str []), (.list 0 0 .no false [])] [(0, 1, (.t 4)), (2, 17, (.t 5))], none⟩,
  ⟨some 3, .alloc [(.str []), (.list 0 0 .no false []), (.int .i64 (.ofNat 0)), (.int .i64 (.ofNat 0)), (.int .i64 (.ofNat 0)), (.int .i64 (.ofNat 0)), (.int .i64 (.ofNat 0)), (.int .i64 (.ofNat 0)), (.int .i64 (.ofNat 0)), (.int .i64 (.ofNat 0)), (.int .i64 (.ofNat 0)), (.int .i64 (.ofNat 0)), (.int .i64 (.ofNat 0)), (.int .i64 (.ofNat 0)), (.int .i64 (.ofNat 0)), (.int .i64 (.ofNat 0)), (.int .i64 (.ofNat 0)), (.int .i64 (.ofNat 0)), (.int .i64 (.ofNat 0)), (.str []), (.list 0 0 .no false [])], none⟩,
  ⟨none, .store 21 (.t 3) (.t 6), none⟩]
@[simp] def f613r2 : List ROper := [
  ⟨some 7, .mv (.t 0), none⟩,
  ⟨some 8, .len .str (.t 7), none⟩,
  ⟨some 9, .bin .gtr (.t 8) (.c (.int .i64 (.ofNat 0))), none⟩]
@[simp] def f613r3 : List ROper := [
  ⟨some 10, .mv (.t 0), none⟩,
  ⟨some 11, .len .str (.t 10), none⟩,
  ⟨some 12, .build [(.int .i64 (.ofNat 0)), (.int .i64 (.ofNat 0)), (.int .i64 (.ofNat 0)), (.int .i64 (.ofNat 0))] [(0, 1, (.t 11))], none⟩,
  ⟨some 13, .lit 4 true [(.int .i64 (.ofNat 0)), (.int .i64 (.ofNat 0)), (.int .i64 (.ofNat 0)), (.int .i64 (.ofNat 0))] 1 [(0, (.t 12))], none⟩,
  ⟨some 14, .faddr 1 (.t 3), none⟩,
  ⟨none, .store 1 (.t 14) (.t 13), none⟩]
@[simp] def f613r4 : List ROper := [
  ⟨some 15, .load 21 true (.t 3), none⟩,
  ⟨none, .store 21 (.t 2) (.t 15), none⟩]
def f613 : RFunc := ⟨[.cell 2 21 true], (.seq (.region f613r0 [0, 2]) (.seq (.region f613r1 [0, 2, 3]) (.seq (.seq (.region f613r2 [0, 2, 3, 9]) (.cond (.t 9) (.region f613r3 [2, 3]) .skip)) (.seq (.region f613r4 [2]) .ret)))), true⟩

/-! quire/quirekit.OverInts -/
@[simp] def f614r0 : List ROper := [
  ⟨some 4, .mv (.t 0), none⟩,
  ⟨some 5, .mv (.t 0), none⟩,
  ⟨some 6, .cap (.t 5), none⟩,
  ⟨some 7, .slice false 1 (.t 4) none (some (.t 6)) none, none⟩,
  ⟨some 2, .mv (.t 7), none⟩]
@[simp] def f614r1 : List ROper := [
  ⟨some 3, .mv (.c (.int .i64 (.ofNat 0))), none⟩]
@[simp] def f614r2 : List ROper := [
  ⟨some 8, .mv (.t 3), none⟩,
  ⟨some 9, .mv (.t 2), none⟩,
  ⟨some 10, .len .slice (.t 9), none⟩,
  ⟨some 11, .bin .lss (.t 8) (.t 10), none⟩]
@[simp] def f614r3 : List ROper := [
  ⟨some 14, .mv (.t 2), none⟩,
  ⟨some 15, .mv (.t 3), none⟩,
  ⟨some 16, .mv (.t 2), none⟩,
  ⟨some 17, .mv (.t 3), none⟩,
  ⟨some 18, .iaddr 1 (.t 16) (.t 17), none⟩,
  ⟨some 19, .load 1 false (.t 18), none⟩,
  ⟨some 20, .bin .xor (.t 19) (.c (.int .i64 (.ofNat 1))), none⟩,
  ⟨some 21, .iaddr 1 (.t 14) (.t 15), none⟩,
  ⟨none, .store 1 (.t 21) (.t 20), none⟩]
@[simp] def f614r4 : List ROper := [
  ⟨some 12, .mv (.t 3), none⟩,
  ⟨some 13, .bin .add (.t 12) (.c (.int .i64 (.ofNat 1))), none⟩,
  ⟨some 3, .mv (.t 13), none⟩]
def f614B0 : RC := (.seq (.seq (.region f614r2 [2, 3, 11]) (.cond (.t 11) .skip (.exit 0))) (.seq (.block 1 (.region f614r3 [2, 3])) (.region f614r4 [2, 3])))
def f614L0 : RC := .loop [2, 3] f614B0
def f614 : RFunc := ⟨[], (.seq (.region f614r0 [2]) (.seq (.region f614r1 [2, 3]) (.block 0 f614L0))), true⟩

/-! quire/quirelaw16.awake -/
@[simp] def f615r0 : List ROper := [
  ⟨some 0, .mv (.c (.bool false)), none⟩]
@[simp] def f615r1 : List ROper := [
  ⟨some 1, .lit 1 false [(.int .i64 (.ofNat 0))] 2 [(0, (.c (.int .i64 (.ofNat 16)))), (1, (.c (.int .i64 (.ofNat 14))))], none⟩,
  ⟨some 2, .call 617 [(.c (.int .i64 (.ofNat 30))), (.t 1), (.c (.bool false))], none⟩,
  ⟨some 0, .mv (.t 2), none⟩]
def f615 : RFunc := ⟨[.t 0], (.seq (.region f615r0 []) (.seq (.region f615r1 [0]) .ret)), true⟩

/-! quire/quirelaw16.example -/
@[simp] def f616r0 : List ROper := [
  ⟨some 0, .alloc [(.int .i64 (.ofNat 0)), (.list 0 0 .no false [])], none⟩]
@[simp] def f616r1 : List ROper := [
  ⟨some 1, .lit 1 false [(.str [])] 2 [(0, (.c (.str [97, 98, 32, 99]))), (1, (.c (.str [100, 100])))], none⟩,
  ⟨some 2, .build [(.int .i64 (.ofNat 0)), (.list 0 0 .no false [])] [(0, 1, (.c (.int .i64 (.ofNat 2)))), (1, 1, (.t 1))], none⟩,
  ⟨none, .store 2 (.t 0) (.t 2), none⟩]
def f616 : RFunc := ⟨[.cell 0 2 true], (.seq (.region f616r0 [0]) (.seq (.region f616r1 [0]) .ret)), true⟩

/-! quire/quirelaw16.wide -/
@[simp] def f617r0 : List ROper := [
  ⟨some 6, .mv (.c (.bool false)), none⟩]
@[simp] def f617r1 : List ROper := [
  ⟨some 11, .call 616 [], none⟩,
  ⟨some 12, .mv (.t 0), none⟩,
  ⟨some 13, .call 430 [(.t 11), (.t 12)], none⟩,
  ⟨some 10, .mv (.t 13), none⟩,
  ⟨some 14, .extract (.t 10) 0, none⟩,
  ⟨some 15, .extract (.t 10) 1, none⟩,
  ⟨some 16, .extract (.t 10) 2, none⟩,
  ⟨some 7, .mv (.t 14), none⟩,
  ⟨some 8, .mv (.t 15), none⟩,
  ⟨some 9, .mv (.t 16), none⟩]
@[simp] def f617r2 : List ROper := [
  ⟨some 17, .mv (.t 9), none⟩,
  ⟨some 18, .bin .eql (.t 17) (.c (.int .i64 (.ofNat 0))), none⟩,
  ⟨some 19, .mv (.t 18), none⟩,
  ⟨some 20, .mv (.t 8), some (19, true)⟩,
  ⟨some 21, .mv (.t 2), some (19, true)⟩,
  ⟨some 22, .eq .bool false (.t 20) (.t 21), some (19, true)⟩,
  ⟨some 23, .pick (.t 19) (.t 22) (.c (.bool false)), none⟩,
  ⟨some 24, .mv (.t 23), none⟩,
  ⟨some 25, .mv (.t 7), some (24, true)⟩,
  ⟨some 26, .mv (.t 1), some (24, true)⟩,
  ⟨some 27, .call 187 [(.t 25), (.t 26)], some (24, true)⟩,
  ⟨some 28, .pick (.t 24) (.t 27) (.c (.bool false)), none⟩,
  ⟨some 6, .mv (.t 28), none⟩]
def f617 : RFunc := ⟨[.t 6], (.seq (.region f617r0 [0, 1, 2]) (.seq (.region f617r1 [1, 2, 7, 8, 9]) (.seq (.region f617r2 [6]) .ret))), true⟩

/-! quire/quirelaw16.sum -/
@[simp] def f618r0 : List ROper := [
  ⟨some 2, .mv (.c (.int .i64 (.ofNat 0))), none⟩]
@[simp] def f618r1 : List ROper := [
  ⟨some 3, .mv (.c (.int .i64 (.ofNat 0))), none⟩]
@[simp] def f618r2 : List ROper := [
  ⟨some 4, .mv (.c (.int .i64 (.ofNat 0))), none⟩]
@[simp] def f618r3 : List ROper := [
  ⟨some 5, .mv (.t 4), none⟩,
  ⟨some 6, .mv (.t 0), none⟩,
  ⟨some 7, .len .slice (.t 6), none⟩,
  ⟨some 8, .bin .lss (.t 5) (.t 7), none⟩]
@[simp] def f618r4 : List ROper := [
  ⟨some 11, .mv (.t 3), none⟩,
  ⟨some 12, .mv (.t 0), none⟩,
  ⟨some 13, .mv (.t 4), none⟩,
  ⟨some 14, .iaddr 1 (.t 12) (.t 13), none⟩,
  ⟨some 15, .load 1 false (.t 14), none⟩,
  ⟨some 16, .bin .add (.t 11) (.t 15), none⟩,
  ⟨some 3, .mv (.t 16), none⟩]
@[simp] def f618r5 : List ROper := [
  ⟨some 9, .mv (.t 4), none⟩,
  ⟨some 10, .bin .add (.t 9) (.c (.int .i64 (.ofNat 1))), none⟩,
  ⟨some 4, .mv (.t 10), none⟩]
def f618B0 : RC := (.seq (.seq (.region f618r3 [0, 3, 4, 8]) (.cond (.t 8) .skip (.exit 0))) (.seq (.block 1 (.region f618r4 [0, 3, 4])) (.region f618r5 [0, 3, 4])))
def f618L0 : RC := .loop [0, 3, 4] f618B0
@[simp] def f618r6 : List ROper := [
  ⟨some 17, .mv (.t 3), none⟩,
  ⟨some 2, .mv (.t 17), none⟩]
def f618 : RFunc := ⟨[.t 2], (.seq (.region f618r0 [0]) (.seq (.region f618r1 [0, 3]) (.seq (.seq (.region f618r2 [0, 3, 4]) (.block 0 f618L0)) (.seq (.region f618r6 [2]) .ret)))), true⟩

/-! quire/quireref16.columns -/
@[simp] def f619r0 : List ROper := [
  ⟨some 1, .box 2 (.t 0), none⟩,
  ⟨some 2, .mv (.c (.list 0 0 .no false [])), none⟩,
  ⟨some 3, .mv (.c (.list 0 0 .no false [])), none⟩]
@[simp] def f619r1 : List ROper := [
  ⟨some 10, .faddr 0 (.t 1), none⟩,
  ⟨some 11, .load 1 false (.t 10), none⟩,
  ⟨some 12, .mkslice 1 false 8 [(.int .i64 (.ofNat 0))] (.t 11) (.t 11), none⟩,
  ⟨some 13, .faddr 0 (.t 1), none⟩,
  ⟨some 14, .load 1 false (.t 13), none⟩,
  ⟨some 15, .mkslice 1 false 8 [(.int .i64 (.ofNat 0))] (.t 14) (.t 14), none⟩,
  ⟨some 4, .mv (.t 12), none⟩,
  ⟨some 5, .mv (.t 15), none⟩]
@[simp] def f619r2 : List ROper := [
  ⟨some 6, .mv (.c (.int .i64 (.ofNat 0))), none⟩]
@[simp] def f619r3 : List ROper := [
  ⟨some 16, .mv (.t 6), none⟩,
  ⟨some 17, .faddr 1 (.t 1), none⟩,
  ⟨some 18, .load 1 false (.t 17), none⟩,
  ⟨some 19, .len .slice (.t 18), none⟩,
  ⟨some 20, .bin .lss (.t 16) (.t 19), none⟩]
@[simp] def f619r4 : List ROper := [
  ⟨some 24, .faddr 1 (.t 1), none⟩,
  ⟨some 25, .load 1 false (.t 24), none⟩,
  ⟨some 26, .mv (.t 6), none⟩,
  ⟨some 27, .iaddr 1 (.t 25) (.t 26), none⟩,
  ⟨some 28, .load 1 false (.t 27), none⟩,
  ⟨some 29, .call 621 [(.t 28)], none⟩,
  ⟨some 23, .mv (.t 29), none⟩,
  ⟨some 30, .extract (.t 23) 0, none⟩,
  ⟨some 31, .extract (.t 23) 1, none⟩,
  ⟨some 7, .mv (.t 30), none⟩,
  ⟨some 8, .mv (.t 31), none⟩]
@[simp] def f619r5 : List ROper := [
  ⟨some 32, .mv (.t 6), none⟩,
  ⟨some 33, .faddr 0 (.t 1), none⟩,
  ⟨some 34, .load 1 false (.t 33), none⟩,
  ⟨some 35, .bin .rem (.t 32) (.t 34), none⟩,
  ⟨some 9, .mv (.t 35), none⟩]
@[simp] def f619r6 : List ROper := [
  ⟨some 36, .mv (.t 4), none⟩,
  ⟨some 37, .mv (.t 9), none⟩,
  ⟨some 38, .mv (.t 4), none⟩,
  ⟨some 39, .mv (.t 9), none⟩,
  ⟨some 40, .iaddr 1 (.t 38) (.t 39), none⟩,
  ⟨some 41, .load 1 false (.t 40), none⟩,
  ⟨some 42, .mv (.t 7), none⟩,
  ⟨some 43, .bin .add (.t 42) (.c (.int .i64 (.ofNat 4))), none⟩,
  ⟨some 44, .max [(.t 41), (.t 43)], none⟩,
  ⟨some 45, .iaddr 1 (.t 36) (.t 37), none⟩,
  ⟨none, .store 1 (.t 45) (.t 44), none⟩]
@[simp] def f619r7 : List ROper := [
  ⟨some 46, .mv (.t 5), none⟩,
  ⟨some 47, .mv (.t 9), none⟩,
  ⟨some 48, .mv (.t 5), none⟩,
  ⟨some 49, .mv (.t 9), none⟩,
  ⟨some 50, .iaddr 1 (.t 48) (.t 49), none⟩,
  ⟨some 51, .load 1 false (.t 50), none⟩,
  ⟨some 52, .mv (.t 8), none⟩,
  ⟨some 53, .bin .add (.t 52) (.c (.int .i64 (.ofNat 4))), none⟩,
  ⟨some 54, .max [(.t 51), (.t 53)], none⟩,
  ⟨some 55, .iaddr 1 (.t 46) (.t 47), none⟩,
  ⟨none, .store 1 (.t 55) (.t 54), none⟩]
@[simp] def f619r8 : List ROper := [
  ⟨some 21, .mv (.t 6), none⟩,
  ⟨some 22, .bin .add (.t 21) (.c (.int .i64 (.ofNat 1))), none⟩,
  ⟨some 6, .mv (.t 22), none⟩]
def f619B0 : RC := (.seq (.seq (.region f619r3 [1, 4, 5, 6, 20]) (.cond (.t 20) .skip (.exit 0))) (.seq (.block 1 (.seq (.region f619r4 [1, 4, 5, 6, 7, 8]) (.seq (.region f619r5 [1, 4, 5, 6, 7, 8, 9]) (.seq (.region f619r6 [1, 4, 5, 6, 8, 9]) (.region f619r7 [1, 4, 5, 6]))))) (.region f619r8 [1, 4, 5, 6])))
def f619L0 : RC := .loop [1, 4, 5, 6] f619B0
@[simp] def f619r9 : List ROper := [
  ⟨some 56, .mv (.t 4), none⟩,
  ⟨some 57, .mv (.t 5), none⟩,
  ⟨some 2, .mv (.t 56), none⟩,
  ⟨some 3, .mv (.t 57), none⟩]
def f619 : RFunc := ⟨[.t 2, .t 3], (.seq (.region f619r0 [1]) (.seq (.dregion f619r1 [2, 5] [] [1, 4, 5]) (.seq (.seq (.region f619r2 [1, 4, 5, 6]) (.block 0 f619L0)) (.seq (.region f619r9 [2, 3]) .ret)))), true⟩

/-! quire/quireref16.sum -/
@[simp] def f620r0 : List ROper := [
  ⟨some 4, .mv (.c (.int .i64 (.ofNat 0))), none⟩]
@[simp] def f620r1 : List ROper := [
  ⟨some 5, .mv (.c (.int .i64 (.ofNat 0))), none⟩]
@[simp] def f620r2 : List ROper := [
  ⟨some 6, .mv (.c (.int .i64 (.ofNat 0))), none⟩]
@[simp] def f620r3 : List ROper := [
  ⟨some 7, .mv (.t 6), none⟩,
  ⟨some 8, .mv (.t 1), none⟩,
  ⟨some 9, .bin .lss (.t 7) (.t 8), none⟩]
@[simp] def f620r4 : List ROper := [
  ⟨some 12, .mv (.t 5), none⟩,
  ⟨some 13, .mv (.t 0), none⟩,
  ⟨some 14, .mv (.t 6), none⟩,
  ⟨some 15, .iaddr 1 (.t 13) (.t 14), none⟩,
  ⟨some 16, .load 1 false (.t 15), none⟩,
  ⟨some 17, .bin .add (.t 12) (.t 16), none⟩,
  ⟨some 5, .mv (.t 17), none⟩]
@[simp] def f620r5 : List ROper := [
  ⟨some 10, .mv (.t 6), none⟩,
  ⟨some 11, .bin .add (.t 10) (.c (.int .i64 (.ofNat 1))), none⟩,
  ⟨some 6, .mv (.t 11), none⟩]
def f620B0 : RC := (.seq (.seq (.region f620r3 [0, 1, 5, 6, 9]) (.cond (.t 9) .skip (.exit 0))) (.seq (.block 1 (.region f620r4 [0, 1, 5, 6])) (.region f620r5 [0, 1, 5, 6])))
def f620L0 : RC := .loop [0, 1, 5, 6] f620B0
@[simp] def f620r6 : List ROper := [
  ⟨some 18, .mv (.t 5), none⟩,
  ⟨some 4, .mv (.t 18), none⟩]
def f620 : RFunc := ⟨[.t 4], (.seq (.region f620r0 [0, 1]) (.seq (.region f620r1 [0, 1, 5]) (.seq (.seq (.region f620r2 [0, 1, 5, 6]) (.block 0 f620L0)) (.seq (.region f620r6 [4]) .ret)))), true⟩

/-! quire/quireref16.sides -/
@[simp] def f621r0 : List ROper := [
  ⟨some 2, .mv (.c (.int .i64 (.ofNat 0))), none⟩,
  ⟨some 3, .mv (.c (.int .i64 (.ofNat 0))), none⟩]
@[simp] def f621r1 : List ROper := [
  ⟨some 10, .mv (.t 0), none⟩,
  ⟨some 11, .call 613 [(.t 10)], none⟩,
  ⟨some 12, .call 11 [(.t 11)], none⟩,
  ⟨some 9, .mv (.t 12), none⟩,
  ⟨some 13, .extract (.t 9) 0, none⟩,
  ⟨some 14, .extract (.t 9) 1, none⟩,
  ⟨some 4, .mv (.t 13), none⟩,
  ⟨some 5, .mv (.t 14), none⟩]
@[simp] def f621r2 : List ROper := [
  ⟨some 6, .mv (.c (.int .i64 (.ofNat 0))), none⟩]
@[simp] def f621r3 : List ROper := [
  ⟨some 7, .mv (.c (.int .i64 (.ofNat 0))), none⟩]
@[simp] def f621r4 : List ROper := [
  ⟨some 15, .mv (.t 7), none⟩,
  ⟨some 16, .mv (.t 4), none⟩,
  ⟨some 17, .len .slice (.t 16), none⟩,
  ⟨some 18, .bin .lss (.t 15) (.t 17), none⟩]
@[simp] def f621r5 : List ROper := [
  ⟨some 21, .mv (.t 7), none⟩,
  ⟨some 22, .bin .add (.t 21) (.c (.int .i64 (.ofNat 1))), none⟩,
  ⟨some 8, .mv (.t 22), none⟩]
@[simp] def f621r6 : List ROper := [
  ⟨some 23, .mv (.t 8), none⟩,
  ⟨some 24, .mv (.t 4), none⟩,
  ⟨some 25, .len .slice (.t 24), none⟩,
  ⟨some 26, .bin .leq (.t 23) (.t 25), none⟩,
  ⟨some 27, .mv (.t 26), none⟩,
  ⟨some 28, .mv (.t 4), some (27, true)⟩,
  ⟨some 29, .mv (.t 8), some (27, true)⟩,
  ⟨some 30, .bin .sub (.t 29) (.c (.int .i64 (.ofNat 1))), some (27, true)⟩,
  ⟨some 31, .iaddr 6 (.t 28) (.t 30), some (27, true)⟩,
  ⟨some 32, .faddr 2 (.t 31), some (27, true)⟩,
  ⟨some 33, .load 1 false (.t 32), some (27, true)⟩,
  ⟨some 34, .bin .neq (.t 33) (.c (.int .i64 (.ofNat 3))), some (27, true)⟩,
  ⟨some 35, .pick (.t 27) (.t 34) (.c (.bool false)), none⟩]
@[simp] def f621r7 : List ROper := [
  ⟨some 38, .mv (.t 6), none⟩,
  ⟨some 39, .mv (.t 4), none⟩,
  ⟨some 40, .mv (.t 7), none⟩,
  ⟨some 41, .mv (.t 8), none⟩,
  ⟨some 42, .call 53 [(.t 39), (.t 40), (.t 41)], none⟩,
  ⟨some 43, .max [(.t 38), (.t 42)], none⟩,
  ⟨some 6, .mv (.t 43), none⟩]
@[simp] def f621r8 : List ROper := [
  ⟨some 36, .mv (.t 8), none⟩,
  ⟨some 37, .bin .add (.t 36) (.c (.int .i64 (.ofNat 1))), none⟩,
  ⟨some 8, .mv (.t 37), none⟩]
def f621B0 : RC := (.seq (.seq (.region f621r6 [4, 6, 7, 8, 35]) (.cond (.t 35) .skip (.exit 2))) (.seq (.block 3 (.region f621r7 [4, 6, 7, 8])) (.region f621r8 [4, 6, 7, 8])))
def f621L0 : RC := .loop [4, 6, 7, 8] f621B0
@[simp] def f621r9 : List ROper := [
  ⟨some 19, .mv (.t 7), none⟩,
  ⟨some 20, .bin .add (.t 19) (.c (.int .i64 (.ofNat 1))), none⟩,
  ⟨some 7, .mv (.t 20), none⟩]
def f621B1 : RC := (.seq (.seq (.region f621r4 [4, 6, 7, 18]) (.cond (.t 18) .skip (.exit 0))) (.seq (.block 1 (.seq (.region f621r5 [4, 6, 7, 8]) (.block 2 f621L0))) (.region f621r9 [4, 6, 7])))
def f621L1 : RC := .loop [4, 6, 7] f621B1
@[simp] def f621r10 : List ROper := [
  ⟨some 44, .mv (.t 6), none⟩,
  ⟨some 45, .mv (.t 4), none⟩,
  ⟨some 46, .mv (.t 4), none⟩,
  ⟨some 47, .len .slice (.t 46), none⟩,
  ⟨some 48, .call 53 [(.t 45), (.c (.int .i64 (.ofNat 0))), (.t 47)], none⟩,
  ⟨some 2, .mv (.t 44), none⟩,
  ⟨some 3, .mv (.t 48), none⟩]
def f621 : RFunc := ⟨[.t 2, .t 3], (.seq (.region f621r0 [0]) (.seq (.region f621r1 [4]) (.seq (.region f621r2 [4, 6]) (.seq (.seq (.region f621r3 [4, 6, 7]) (.block 0 f621L1)) (.seq (.region f621r10 [2, 3]) .ret))))), true⟩

def tree : TT := (.node 72 (.node 45 (.node 32 (.node 22 (.node 14 (.node 11 (.leaf 10 (.code f10)) (.node 13 (.leaf 11 (.code f11)) (.leaf 13 (.code f13)))) (.node 15 (.leaf 14 (.code f14)) (.node 21 (.leaf 15 (.code f15)) (.leaf 21 (.code f21))))) (.node 29 (.node 23 (.leaf 22 (.code f22)) (.node 27 (.leaf 23 (.code f23)) (.leaf 27 (.code f27)))) (.node 30 (.leaf 29 (.code f29)) (.node 31 (.leaf 30 (.code f30)) (.leaf 31 (.code f31)))))) (.node 38 (.node 35 (.node 33 (.leaf 32 (.code f32)) (.node 34 (.leaf 33 (.code f33)) (.leaf 34 (.code f34)))) (.node 36 (.leaf 35 (.code f35)) (.node 37 (.leaf 36 (.code f36)) (.leaf 37 (.code f37))))) (.node 41 (.node 39 (.leaf 38 (.code f38)) (.node 40 (.leaf 39 (.code f39)) (.leaf 40 (.code f40)))) (.node 43 (.node 42 (.leaf 41 (.code f41)) (.leaf 42 (.code f42))) (.node 44 (.leaf 43 (.code f43)) (.leaf 44 (.code f44))))))) (.node 59 (.node 52 (.node 48 (.node 46 (.leaf 45 (.code f45)) (.node 47 (.leaf 46 (.code f46)) (.leaf 47 (.code f47)))) (.node 49 (.leaf 48 (.code f48)) (.node 50 (.leaf 49 (.code f49)) (.leaf 50 (.code f50))))) (.node 55 (.node 53 (.leaf 52 (.code f52)) (.node 54 (.leaf 53 (.code f53)) (.leaf 54 (.code f54)))) (.node 57 (.node 56 (.leaf 55 (.code f55)) (.leaf 56 (.code f56))) (.node 58 (.leaf 57 (.code f57)) (.leaf 58 (.code f58)))))) (.node 65 (.node 62 (.node 60 (.leaf 59 (.code f59)) (.node 61 (.leaf 60 (.code f60)) (.leaf 61 (.code f61)))) (.node 63 (.leaf 62 (.code f62)) (.node 64 (.leaf 63 (.code f63)) (.leaf 64 (.prim countByteD))))) (.node 68 (.node 66 (.leaf 65 (.code f65)) (.node 67 (.leaf 66 (.code f66)) (.leaf 67 (.code f67)))) (.node 70 (.node 69 (.leaf 68 (.code f68)) (.leaf 69 (.code f69))) (.node 71 (.leaf 70 (.code f70)) (.leaf 71 (.code f71)))))))) (.node 591 (.node 455 (.node 182 (.node 76 (.node 73 (.leaf 72 (.prim indexByteD)) (.node 74 (.leaf 73 (.code f73)) (.leaf 74 (.code f74)))) (.node 77 (.leaf 76 (.code f76)) (.node 78 (.leaf 77 (.code f77)) (.leaf 78 (.code f78))))) (.node 430 (.node 184 (.leaf 182 (.code f182)) (.node 187 (.leaf 184 (.code f184)) (.leaf 187 (.code f187)))) (.node 453 (.leaf 430 (.code f430)) (.node 454 (.leaf 453 (.code f453)) (.leaf 454 (.code f454)))))) (.node 470 (.node 463 (.node 456 (.leaf 455 (.code f455)) (.node 458 (.leaf 456 (.code f456)) (.leaf 458 (.code f458)))) (.node 465 (.leaf 463 (.code f463)) (.node 469 (.leaf 465 (.code f465)) (.leaf 469 (.code f469))))) (.node 478 (.node 472 (.leaf 470 (.code f470)) (.node 476 (.leaf 472 (.code f472)) (.leaf 476 (.code f476)))) (.node 589 (.node 580 (.leaf 478 (.prim noEscapeD)) (.leaf 580 (.code f580))) (.node 590 (.leaf 589 (.code f589)) (.leaf 590 (.code f590))))))) (.node 609 (.node 602 (.node 598 (.node 592 (.leaf 591 (.code f591)) (.node 597 (.leaf 592 (.code f592)) (.leaf 597 (.code f597)))) (.node 599 (.leaf 598 (.code f598)) (.node 600 (.leaf 599 (.code f599)) (.leaf 600 (.code f600))))) (.node 605 (.node 603 (.leaf 602 (.prim (makeNoZeroD 5))) (.node 604 (.leaf 603 (.code f603)) (.leaf 604 (.code f604)))) (.node 607 (.node 606 (.leaf 605 (.code f605)) (.leaf 606 (.code f606))) (.node 608 (.leaf 607 (.code f607)) (.leaf 608 (.code f608)))))) (.node 615 (.node 612 (.node 610 (.leaf 609 (.code f609)) (.node 611 (.leaf 610 (.code f610)) (.leaf 611 (.code f611)))) (.node 613 (.leaf 612 (.code f612)) (.node 614 (.leaf 613 (.code f613)) (.leaf 614 (.code f614))))) (.node 618 (.node 616 (.leaf 615 (.code f615)) (.node 617 (.leaf 616 (.code f616)) (.leaf 617 (.code f617)))) (.node 620 (.node 619 (.leaf 618 (.code f618)) (.leaf 619 (.code f619))) (.node 621 (.leaf 620 (.code f620)) (.leaf 621 (.code f621)))))))))

def fms : List (Nat × FuncId) := [(10, 49), (11, 51), (13, 55), (14, 61), (15, 16), (21, 77), (22, 85), (23, 50), (27, 56), (29, 57), (30, 58), (31, 59), (32, 60), (33, 62), (34, 63), (35, 64), (36, 65), (37, 66), (38, 67), (39, 68), (40, 69), (41, 70), (42, 71), (43, 72), (44, 73), (45, 79), (46, 80), (47, 81), (48, 82), (49, 32), (50, 33), (52, 98), (53, 52), (54, 74), (55, 75), (56, 76), (57, 78), (58, 83), (59, 84), (60, 86), (61, 87), (62, 88), (63, 89), (64, 90), (65, 91), (66, 95), (67, 96), (580, 23), (68, 92), (69, 93), (70, 94), (71, 97), (72, 99), (73, 100), (74, 101), (75, 102), (76, 103), (589, 34), (77, 104), (78, 105), (590, 35), (591, 36), (592, 38), (597, 43), (598, 44), (599, 45), (600, 47), (602, 54), (603, 3), (604, 4), (605, 5), (606, 6), (607, 7), (608, 8), (609, 9), (610, 10), (611, 12), (612, 15), (613, 18), (614, 19), (615, 21), (616, 22), (617, 24), (618, 25), (619, 28), (620, 31), (621, 42), (430, 11), (182, 26), (184, 20), (187, 13), (453, 14), (454, 27), (455, 29), (456, 30), (458, 17), (463, 37), (465, 39), (469, 40), (470, 41), (472, 46), (476, 48), (478, 53)]

def env : List (Nat × List Nat) := []

end Go.D.Tab
