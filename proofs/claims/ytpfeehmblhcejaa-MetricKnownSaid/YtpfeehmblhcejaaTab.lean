/-
The code of what the laws reach, as a table of the small language. Printed by wip/gen.
-/
import Derived.Test.YtpfeehmblhcejaaFwDPrim
namespace Go.D.Tab

/-! quire/quirelaw07.MetricKnown -/
def f6r0 : List ROper := [
  ⟨some 0, .mv (.c (.bool false)), none⟩]
def f6r1 : List ROper := [
  ⟨some 23, .call 16 [], none⟩,
  ⟨some 24, .un .not (.t 23), none⟩,
  ⟨some 25, .mv (.t 24), none⟩,
  ⟨some 26, .call 21 [(.c (.int .u8 (.ofNat 105)))], some (25, false)⟩,
  ⟨some 27, .bin .neq (.t 26) (.c (.int .i64 (.ofNat 2))), some (25, false)⟩,
  ⟨some 28, .pick (.t 25) (.c (.bool true)) (.t 27), none⟩,
  ⟨some 29, .mv (.t 28), none⟩,
  ⟨some 30, .call 21 [(.c (.int .u8 (.ofNat 109)))], some (29, false)⟩,
  ⟨some 31, .bin .neq (.t 30) (.c (.int .i64 (.ofNat 7))), some (29, false)⟩,
  ⟨some 32, .pick (.t 29) (.c (.bool true)) (.t 31), none⟩,
  ⟨some 33, .mv (.t 32), none⟩,
  ⟨some 34, .call 21 [(.c (.int .u8 (.ofNat 77)))], some (33, false)⟩,
  ⟨some 35, .bin .neq (.t 34) (.c (.int .i64 (.ofNat 8))), some (33, false)⟩,
  ⟨some 36, .pick (.t 33) (.c (.bool true)) (.t 35), none⟩,
  ⟨some 37, .mv (.t 36), none⟩,
  ⟨some 38, .call 21 [(.c (.int .u8 (.ofNat 53)))], some (37, false)⟩,
  ⟨some 39, .bin .neq (.t 38) (.c (.int .i64 (.ofNat 5))), some (37, false)⟩,
  ⟨some 40, .pick (.t 37) (.c (.bool true)) (.t 39), none⟩,
  ⟨some 41, .mv (.t 40), none⟩,
  ⟨some 42, .call 21 [(.c (.int .u8 (.ofNat 10)))], some (41, false)⟩,
  ⟨some 43, .bin .neq (.t 42) (.c (.int .i64 (.ofNat 0))), some (41, false)⟩,
  ⟨some 44, .pick (.t 41) (.c (.bool true)) (.t 43), none⟩]
def f6r2 : List ROper := [
  ⟨some 0, .mv (.c (.bool false)), none⟩]
def f6r3 : List ROper := [
  ⟨some 46, .call 17 [(.c (.str [87, 105, 116])), (.c (.int .i64 (.ofNat 8)))], none⟩,
  ⟨some 45, .mv (.t 46), none⟩,
  ⟨some 47, .extract (.t 45) 0, none⟩,
  ⟨some 48, .extract (.t 45) 1, none⟩,
  ⟨some 1, .mv (.t 47), none⟩,
  ⟨some 2, .mv (.t 48), none⟩]
def f6r4 : List ROper := [
  ⟨some 50, .call 17 [(.c (.str [87, 105, 116])), (.c (.int .i64 (.ofNat 10)))], none⟩,
  ⟨some 49, .mv (.t 50), none⟩,
  ⟨some 51, .extract (.t 49) 0, none⟩,
  ⟨some 52, .extract (.t 49) 1, none⟩,
  ⟨some 3, .mv (.t 51), none⟩,
  ⟨some 4, .mv (.t 52), none⟩]
def f6r5 : List ROper := [
  ⟨some 54, .call 17 [(.c (.str [])), (.c (.int .i64 (.ofNat 0)))], none⟩,
  ⟨some 53, .mv (.t 54), none⟩,
  ⟨some 55, .extract (.t 53) 0, none⟩,
  ⟨some 56, .extract (.t 53) 1, none⟩,
  ⟨some 5, .mv (.t 55), none⟩,
  ⟨some 6, .mv (.t 56), none⟩]
def f6r6 : List ROper := [
  ⟨some 58, .call 19 [(.c (.int .u8 (.ofNat 65))), (.c (.int .u8 (.ofNat 86))), (.c (.int .i64 (.ofNat 16)))], none⟩,
  ⟨some 57, .mv (.t 58), none⟩,
  ⟨some 59, .extract (.t 57) 0, none⟩,
  ⟨some 60, .extract (.t 57) 1, none⟩,
  ⟨some 7, .mv (.t 59), none⟩,
  ⟨some 8, .mv (.t 60), none⟩]
def f6r7 : List ROper := [
  ⟨some 62, .call 19 [(.c (.int .u8 (.ofNat 114))), (.c (.int .u8 (.ofNat 46))), (.c (.int .i64 (.ofNat 16)))], none⟩,
  ⟨some 61, .mv (.t 62), none⟩,
  ⟨some 63, .extract (.t 61) 0, none⟩,
  ⟨some 64, .extract (.t 61) 1, none⟩,
  ⟨some 9, .mv (.t 63), none⟩,
  ⟨some 10, .mv (.t 64), none⟩]
def f6r8 : List ROper := [
  ⟨some 66, .call 19 [(.c (.int .u8 (.ofNat 97))), (.c (.int .u8 (.ofNat 98))), (.c (.int .i64 (.ofNat 16)))], none⟩,
  ⟨some 65, .mv (.t 66), none⟩,
  ⟨some 67, .extract (.t 65) 0, none⟩,
  ⟨some 68, .extract (.t 65) 1, none⟩,
  ⟨some 11, .mv (.t 67), none⟩,
  ⟨some 12, .mv (.t 68), none⟩]
def f6r9 : List ROper := [
  ⟨some 70, .call 19 [(.c (.int .u8 (.ofNat 65))), (.c (.int .u8 (.ofNat 86))), (.c (.int .i64 (.ofNat 0)))], none⟩,
  ⟨some 69, .mv (.t 70), none⟩,
  ⟨some 71, .extract (.t 69) 0, none⟩,
  ⟨some 72, .extract (.t 69) 1, none⟩,
  ⟨some 13, .mv (.t 71), none⟩,
  ⟨some 14, .mv (.t 72), none⟩]
def f6r10 : List ROper := [
  ⟨some 74, .call 25 [], none⟩,
  ⟨some 75, .call 10 [(.t 74)], none⟩,
  ⟨some 73, .mv (.t 75), none⟩,
  ⟨some 76, .extract (.t 73) 0, none⟩,
  ⟨some 77, .extract (.t 73) 1, none⟩,
  ⟨some 15, .mv (.t 76), none⟩,
  ⟨some 16, .mv (.t 77), none⟩]
def f6r11 : List ROper := [
  ⟨some 79, .mv (.t 15), none⟩,
  ⟨some 80, .call 23 [(.t 79), (.c (.int .i64 (.ofNat 0))), (.c (.int .i64 (.ofNat 2)))], none⟩,
  ⟨some 78, .mv (.t 80), none⟩,
  ⟨some 81, .extract (.t 78) 0, none⟩,
  ⟨some 82, .extract (.t 78) 1, none⟩,
  ⟨some 17, .mv (.t 81), none⟩,
  ⟨some 18, .mv (.t 82), none⟩]
def f6r12 : List ROper := [
  ⟨some 84, .mv (.t 15), none⟩,
  ⟨some 85, .call 23 [(.t 84), (.c (.int .i64 (.ofNat 1))), (.c (.int .i64 (.ofNat 2)))], none⟩,
  ⟨some 83, .mv (.t 85), none⟩,
  ⟨some 86, .extract (.t 83) 0, none⟩,
  ⟨some 87, .extract (.t 83) 1, none⟩,
  ⟨some 19, .mv (.t 86), none⟩,
  ⟨some 20, .mv (.t 87), none⟩]
def f6r13 : List ROper := [
  ⟨some 88, .mv (.t 1), none⟩,
  ⟨some 89, .bin .eql (.t 88) (.c (.int .i64 (.ofNat 13))), none⟩,
  ⟨some 90, .mv (.t 89), none⟩,
  ⟨some 91, .mv (.t 2), some (90, true)⟩,
  ⟨some 92, .bin .eql (.t 91) (.c (.int .i64 (.ofNat 0))), some (90, true)⟩,
  ⟨some 93, .pick (.t 90) (.t 92) (.c (.bool false)), none⟩,
  ⟨some 94, .mv (.t 93), none⟩,
  ⟨some 95, .mv (.t 3), some (94, true)⟩,
  ⟨some 96, .bin .eql (.t 95) (.c (.int .i64 (.ofNat 15))), some (94, true)⟩,
  ⟨some 97, .pick (.t 94) (.t 96) (.c (.bool false)), none⟩,
  ⟨some 98, .mv (.t 97), none⟩,
  ⟨some 99, .mv (.t 4), some (98, true)⟩,
  ⟨some 100, .bin .eql (.t 99) (.c (.int .i64 (.ofNat 0))), some (98, true)⟩,
  ⟨some 101, .pick (.t 98) (.t 100) (.c (.bool false)), none⟩,
  ⟨some 102, .mv (.t 101), none⟩,
  ⟨some 103, .mv (.t 6), some (102, true)⟩,
  ⟨some 104, .bin .eql (.t 103) (.c (.int .i64 (.ofNat 5))), some (102, true)⟩,
  ⟨some 105, .pick (.t 102) (.t 104) (.c (.bool false)), none⟩,
  ⟨some 106, .mv (.t 105), none⟩,
  ⟨some 107, .mv (.t 7), some (106, true)⟩,
  ⟨some 108, .bin .eql (.t 107) (.c (.int .i64 (.negSucc 1))), some (106, true)⟩,
  ⟨some 109, .pick (.t 106) (.t 108) (.c (.bool false)), none⟩,
  ⟨some 110, .mv (.t 109), none⟩,
  ⟨some 111, .mv (.t 8), some (110, true)⟩,
  ⟨some 112, .bin .eql (.t 111) (.c (.int .i64 (.ofNat 0))), some (110, true)⟩,
  ⟨some 113, .pick (.t 110) (.t 112) (.c (.bool false)), none⟩,
  ⟨some 114, .mv (.t 113), none⟩,
  ⟨some 115, .mv (.t 9), some (114, true)⟩,
  ⟨some 116, .bin .eql (.t 115) (.c (.int .i64 (.negSucc 0))), some (114, true)⟩,
  ⟨some 117, .pick (.t 114) (.t 116) (.c (.bool false)), none⟩,
  ⟨some 118, .mv (.t 117), none⟩,
  ⟨some 119, .mv (.t 10), some (118, true)⟩,
  ⟨some 120, .bin .eql (.t 119) (.c (.int .i64 (.ofNat 0))), some (118, true)⟩,
  ⟨some 121, .pick (.t 118) (.t 120) (.c (.bool false)), none⟩,
  ⟨some 122, .mv (.t 121), none⟩,
  ⟨some 123, .mv (.t 11), some (122, true)⟩,
  ⟨some 124, .bin .eql (.t 123) (.c (.int .i64 (.ofNat 0))), some (122, true)⟩,
  ⟨some 125, .pick (.t 122) (.t 124) (.c (.bool false)), none⟩,
  ⟨some 126, .mv (.t 125), none⟩,
  ⟨some 127, .mv (.t 12), some (126, true)⟩,
  ⟨some 128, .bin .eql (.t 127) (.c (.int .i64 (.ofNat 0))), some (126, true)⟩,
  ⟨some 129, .pick (.t 126) (.t 128) (.c (.bool false)), none⟩,
  ⟨some 130, .mv (.t 129), none⟩,
  ⟨some 131, .mv (.t 14), some (130, true)⟩,
  ⟨some 132, .bin .eql (.t 131) (.c (.int .i64 (.ofNat 5))), some (130, true)⟩,
  ⟨some 133, .pick (.t 130) (.t 132) (.c (.bool false)), none⟩,
  ⟨some 21, .mv (.t 133), none⟩]
def f6r14 : List ROper := [
  ⟨some 134, .mv (.t 17), none⟩,
  ⟨some 135, .bin .eql (.t 134) (.c (.int .i64 (.ofNat 22))), none⟩,
  ⟨some 136, .mv (.t 135), none⟩,
  ⟨some 137, .mv (.t 18), some (136, true)⟩,
  ⟨some 138, .bin .eql (.t 137) (.c (.int .i64 (.ofNat 0))), some (136, true)⟩,
  ⟨some 139, .pick (.t 136) (.t 138) (.c (.bool false)), none⟩,
  ⟨some 140, .mv (.t 139), none⟩,
  ⟨some 141, .mv (.t 19), some (140, true)⟩,
  ⟨some 142, .bin .eql (.t 141) (.c (.int .i64 (.ofNat 12))), some (140, true)⟩,
  ⟨some 143, .pick (.t 140) (.t 142) (.c (.bool false)), none⟩,
  ⟨some 144, .mv (.t 143), none⟩,
  ⟨some 145, .mv (.t 20), some (144, true)⟩,
  ⟨some 146, .bin .eql (.t 145) (.c (.int .i64 (.ofNat 0))), some (144, true)⟩,
  ⟨some 147, .pick (.t 144) (.t 146) (.c (.bool false)), none⟩,
  ⟨some 22, .mv (.t 147), none⟩]
def f6r15 : List ROper := [
  ⟨some 148, .mv (.t 21), none⟩,
  ⟨some 149, .mv (.t 148), none⟩,
  ⟨some 150, .mv (.t 22), some (149, true)⟩,
  ⟨some 151, .pick (.t 149) (.t 150) (.c (.bool false)), none⟩,
  ⟨some 152, .mv (.t 151), none⟩,
  ⟨some 153, .build [(.int .i64 (.ofNat 0)), (.int .i64 (.ofNat 0)), (.int .i64 (.ofNat 0)), (.int .i64 (.ofNat 0))] [(0, 1, (.c (.int .i64 (.ofNat 1))))], some (152, true)⟩,
  ⟨some 154, .lit 4 true [(.int .i64 (.ofNat 0)), (.int .i64 (.ofNat 0)), (.int .i64 (.ofNat 0)), (.int .i64 (.ofNat 0))] 1 [(0, (.t 153))], some (152, true)⟩,
  ⟨some 155, .call 26 [(.c (.int .i64 (.ofNat 8)))], some (152, true)⟩,
  ⟨some 156, .build [(.str []), (.list 0 0 .no false []), (.int .i64 (.ofNat 0)), (.int .i64 (.ofNat 0)), (.int .i64 (.ofNat 0)), (.int .i64 (.ofNat 0)), (.int .i64 (.ofNat 0)), (.int .i64 (.ofNat 0)), (.int .i64 (.ofNat 0)), (.int .i64 (.ofNat 0)), (.int .i64 (.ofNat 0)), (.int .i64 (.ofNat 0)), (.int .i64 (.ofNat 0)), (.int .i64 (.ofNat 0)), (.int .i64 (.ofNat 0)), (.int .i64 (.ofNat 0)), (.int .i64 (.ofNat 0)), (.int .i64 (.ofNat 0)), (.int .i64 (.ofNat 0)), (.str []), (.list 0 0 .no false [])] [(0, 1, (.c (.str [3]))), (1, 1, (.t 154)), (2, 17, (.t 155))], some (152, true)⟩,
  ⟨some 157, .call 13 [(.t 156)], some (152, true)⟩,
  ⟨some 158, .bin .eql (.t 157) (.c (.int .i64 (.ofNat 4))), some (152, true)⟩,
  ⟨some 159, .pick (.t 152) (.t 158) (.c (.bool false)), none⟩,
  ⟨some 160, .mv (.t 159), none⟩,
  ⟨some 161, .call 26 [(.c (.int .i64 (.ofNat 8)))], some (160, true)⟩,
  ⟨some 162, .build [(.str []), (.list 0 0 .no false []), (.int .i64 (.ofNat 0)), (.int .i64 (.ofNat 0)), (.int .i64 (.ofNat 0)), (.int .i64 (.ofNat 0)), (.int .i64 (.ofNat 0)), (.int .i64 (.ofNat 0)), (.int .i64 (.ofNat 0)), (.int .i64 (.ofNat 0)), (.int .i64 (.ofNat 0)), (.int .i64 (.ofNat 0)), (.int .i64 (.ofNat 0)), (.int .i64 (.ofNat 0)), (.int .i64 (.ofNat 0)), (.int .i64 (.ofNat 0)), (.int .i64 (.ofNat 0)), (.int .i64 (.ofNat 0)), (.int .i64 (.ofNat 0)), (.str []), (.list 0 0 .no false [])] [(0, 1, (.c (.str [97]))), (2, 17, (.t 161))], some (160, true)⟩,
  ⟨some 163, .call 13 [(.t 162)], some (160, true)⟩,
  ⟨some 164, .bin .eql (.t 163) (.c (.int .i64 (.ofNat 2))), some (160, true)⟩,
  ⟨some 165, .pick (.t 160) (.t 164) (.c (.bool false)), none⟩,
  ⟨some 0, .mv (.t 165), none⟩]
def f6 : RFunc := ⟨[.t 0], (.seq (.region f6r0 []) (.seq (.seq (.region f6r1 [44]) (.cond (.t 44) (.seq (.region f6r2 [0]) .ret) .skip)) (.seq (.region f6r3 [1, 2]) (.seq (.region f6r4 [1, 2, 3, 4]) (.seq (.region f6r5 [1, 2, 3, 4, 6]) (.seq (.region f6r6 [1, 2, 3, 4, 6, 7, 8]) (.seq (.region f6r7 [1, 2, 3, 4, 6, 7, 8, 9, 10]) (.seq (.region f6r8 [1, 2, 3, 4, 6, 7, 8, 9, 10, 11, 12]) (.seq (.region f6r9 [1, 2, 3, 4, 6, 7, 8, 9, 10, 11, 12, 14]) (.seq (.region f6r10 [1, 2, 3, 4, 6, 7, 8, 9, 10, 11, 12, 14, 15]) (.seq (.region f6r11 [1, 2, 3, 4, 6, 7, 8, 9, 10, 11, 12, 14, 15, 17, 18]) (.seq (.region f6r12 [1, 2, 3, 4, 6, 7, 8, 9, 10, 11, 12, 14, 17, 18, 19, 20]) (.seq (.region f6r13 [17, 18, 19, 20, 21]) (.seq (.region f6r14 [21, 22]) (.seq (.region f6r15 [0]) .ret))))))))))))))), true⟩

/-! quire/metric.Masses -/
def f10r0 : List ROper := [
  ⟨some 1, .box 21 (.t 0), none⟩,
  ⟨some 2, .mv (.c (.list 0 0 .no false [])), none⟩,
  ⟨some 3, .mv (.c (.int .i64 (.ofNat 0))), none⟩]
def f10r1 : List ROper := [
  ⟨some 18, .load 21 true (.t 1), none⟩,
  ⟨some 19, .call 13 [(.t 18)], none⟩,
  ⟨some 4, .mv (.t 19), none⟩]
def f10r2 : List ROper := [
  ⟨some 20, .mv (.t 4), none⟩,
  ⟨some 21, .bin .neq (.t 20) (.c (.int .i64 (.ofNat 0))), none⟩]
def f10r3 : List ROper := [
  ⟨some 22, .mv (.t 4), none⟩,
  ⟨some 2, .mv (.c (.list 0 0 .no false [])), none⟩,
  ⟨some 3, .mv (.t 22), none⟩]
def f10r4 : List ROper := [
  ⟨some 24, .faddr 0 (.t 1), none⟩,
  ⟨some 25, .load 1 false (.t 24), none⟩,
  ⟨some 26, .call 27 [(.t 25)], none⟩,
  ⟨some 23, .mv (.t 26), none⟩,
  ⟨some 27, .extract (.t 23) 0, none⟩,
  ⟨some 28, .extract (.t 23) 1, none⟩,
  ⟨some 5, .mv (.t 27), none⟩,
  ⟨some 6, .mv (.t 28), none⟩]
def f10r5 : List ROper := [
  ⟨some 29, .faddr 1 (.t 1), none⟩,
  ⟨some 30, .load 1 false (.t 29), none⟩,
  ⟨some 31, .call 29 [(.t 30)], none⟩,
  ⟨some 7, .mv (.t 31), none⟩]
def f10r6 : List ROper := [
  ⟨some 32, .faddr 20 (.t 1), none⟩,
  ⟨some 33, .load 1 false (.t 32), none⟩,
  ⟨some 8, .mv (.t 33), none⟩]
def f10r7 : List ROper := [
  ⟨some 9, .mv (.c (.list 0 0 .no false [])), none⟩]
def f10r8 : List ROper := [
  ⟨some 10, .mv (.c (.bool false)), none⟩,
  ⟨some 11, .mv (.c (.int .u8 (.ofNat 0))), none⟩]
def f10r9 : List ROper := [
  ⟨some 34, .mv (.t 5), none⟩,
  ⟨some 35, .len .slice (.t 34), none⟩,
  ⟨some 36, .mv (.c (.int .i64 (.ofNat 0))), none⟩]
def f10r10 : List ROper := [
  ⟨some 37, .bin .lss (.t 36) (.t 35), none⟩]
def f10r11 : List ROper := [
  ⟨some 38, .iaddr 3 (.t 34) (.t 36), none⟩,
  ⟨some 39, .load 3 true (.t 38), none⟩,
  ⟨some 13, .alloc [(.int .i64 (.ofNat 0)), (.int .i64 (.ofNat 0)), (.int .i64 (.ofNat 0))], none⟩,
  ⟨none, .store 3 (.t 13) (.t 39), none⟩]
def f10r12 : List ROper := [
  ⟨some 40, .mv (.t 7), none⟩,
  ⟨some 41, .faddr 0 (.t 13), none⟩,
  ⟨some 42, .load 1 false (.t 41), none⟩,
  ⟨some 43, .callv (.t 40) [(.t 42)], none⟩,
  ⟨some 14, .alloc [(.int .i64 (.ofNat 0)), (.int .i64 (.ofNat 0)), (.int .i64 (.ofNat 0))], none⟩,
  ⟨none, .store 3 (.t 14) (.t 43), none⟩]
def f10r13 : List ROper := [
  ⟨some 44, .faddr 0 (.t 13), none⟩,
  ⟨some 45, .load 1 false (.t 44), none⟩,
  ⟨some 46, .faddr 1 (.t 13), none⟩,
  ⟨some 47, .load 1 false (.t 46), none⟩,
  ⟨some 48, .faddr 2 (.t 13), none⟩,
  ⟨some 49, .load 1 false (.t 48), none⟩,
  ⟨some 50, .faddr 0 (.t 14), none⟩,
  ⟨some 51, .load 1 false (.t 50), none⟩,
  ⟨some 52, .build [(.int .i64 (.ofNat 0)), (.int .i64 (.ofNat 0)), (.int .i64 (.ofNat 0)), (.int .i64 (.ofNat 0)), (.int .i64 (.ofNat 0)), (.int .i64 (.ofNat 0))] [(0, 1, (.t 45)), (1, 1, (.t 47)), (2, 1, (.t 49)), (3, 1, (.t 51))], none⟩,
  ⟨some 15, .alloc [(.int .i64 (.ofNat 0)), (.int .i64 (.ofNat 0)), (.int .i64 (.ofNat 0)), (.int .i64 (.ofNat 0)), (.int .i64 (.ofNat 0)), (.int .i64 (.ofNat 0))], none⟩,
  ⟨none, .store 6 (.t 15) (.t 52), none⟩]
def f10r14 : List ROper := [
  ⟨some 53, .faddr 3 (.t 15), none⟩,
  ⟨some 54, .load 1 false (.t 53), none⟩,
  ⟨some 55, .bin .eql (.t 54) (.c (.int .i64 (.ofNat 0))), none⟩]
def f10r15 : List ROper := [
  ⟨some 56, .faddr 2 (.t 1), none⟩,
  ⟨some 57, .faddr 0 (.t 56), none⟩,
  ⟨some 58, .load 1 false (.t 57), none⟩,
  ⟨some 59, .faddr 3 (.t 15), none⟩,
  ⟨none, .store 1 (.t 59) (.t 58), none⟩]
def f10r16 : List ROper := [
  ⟨some 60, .faddr 0 (.t 1), none⟩,
  ⟨some 61, .load 1 false (.t 60), none⟩,
  ⟨some 62, .faddr 0 (.t 13), none⟩,
  ⟨some 63, .load 1 false (.t 62), none⟩,
  ⟨some 64, .index (.t 61) (.t 63), none⟩,
  ⟨some 16, .mv (.t 64), none⟩]
def f10r17 : List ROper := [
  ⟨some 65, .faddr 2 (.t 13), none⟩,
  ⟨some 66, .load 1 false (.t 65), none⟩,
  ⟨some 67, .bin .eql (.t 66) (.c (.int .i64 (.ofNat 1))), none⟩,
  ⟨some 68, .mv (.t 67), none⟩,
  ⟨some 69, .faddr 2 (.t 13), some (68, false)⟩,
  ⟨some 70, .load 1 false (.t 69), some (68, false)⟩,
  ⟨some 71, .bin .eql (.t 70) (.c (.int .i64 (.ofNat 2))), some (68, false)⟩,
  ⟨some 72, .pick (.t 68) (.c (.bool true)) (.t 71), none⟩,
  ⟨some 17, .mv (.t 72), none⟩]
def f10r18 : List ROper := [
  ⟨some 74, .mv (.t 17), none⟩,
  ⟨some 75, .mv (.t 74), none⟩,
  ⟨some 76, .faddr 2 (.t 13), some (75, false)⟩,
  ⟨some 77, .load 1 false (.t 76), some (75, false)⟩,
  ⟨some 78, .bin .eql (.t 77) (.c (.int .i64 (.ofNat 3))), some (75, false)⟩,
  ⟨some 79, .pick (.t 75) (.c (.bool true)) (.t 78), none⟩,
  ⟨some 73, .mv (.t 79), none⟩]
def f10r19 : List ROper := [
  ⟨some 80, .mv (.t 16), none⟩,
  ⟨some 81, .faddr 3 (.t 15), none⟩,
  ⟨some 82, .load 1 false (.t 81), none⟩,
  ⟨some 83, .call 30 [(.t 80), (.t 82)], none⟩,
  ⟨some 84, .faddr 1 (.t 14), none⟩,
  ⟨some 85, .load 1 false (.t 84), none⟩,
  ⟨some 86, .bin .add (.t 83) (.t 85), none⟩,
  ⟨some 87, .faddr 4 (.t 15), none⟩,
  ⟨none, .store 1 (.t 87) (.t 86), none⟩]
def f10r20 : List ROper := [
  ⟨some 89, .faddr 2 (.t 13), none⟩,
  ⟨some 90, .load 1 false (.t 89), none⟩,
  ⟨some 91, .bin .eql (.t 90) (.c (.int .i64 (.ofNat 7))), none⟩,
  ⟨some 88, .mv (.t 91), none⟩]
def f10r21 : List ROper := [
  ⟨some 92, .mv (.t 8), none⟩,
  ⟨some 93, .iaddr 1 (.t 92) (.c (.int .i64 (.ofNat 0))), none⟩,
  ⟨some 94, .load 1 false (.t 93), none⟩,
  ⟨some 95, .faddr 3 (.t 15), none⟩,
  ⟨some 96, .load 1 false (.t 95), none⟩,
  ⟨some 97, .call 31 [(.t 94), (.t 96)], none⟩,
  ⟨some 98, .faddr 4 (.t 15), none⟩,
  ⟨none, .store 1 (.t 98) (.t 97), none⟩]
def f10r22 : List ROper := [
  ⟨some 99, .mv (.t 8), none⟩,
  ⟨some 100, .slice false 1 (.t 99) (some (.c (.int .i64 (.ofNat 1)))) none none, none⟩,
  ⟨some 8, .mv (.t 100), none⟩]
def f10r23 : List ROper := [
  ⟨some 101, .mv (.t 17), none⟩,
  ⟨some 102, .mv (.t 101), none⟩,
  ⟨some 103, .faddr 2 (.t 14), some (102, true)⟩,
  ⟨some 104, .load 1 false (.t 103), some (102, true)⟩,
  ⟨some 105, .bin .eql (.t 104) (.c (.int .i64 (.ofNat 1))), some (102, true)⟩,
  ⟨some 106, .pick (.t 102) (.t 105) (.c (.bool false)), none⟩,
  ⟨some 107, .mv (.t 106), none⟩,
  ⟨some 108, .mv (.t 10), some (107, true)⟩,
  ⟨some 109, .pick (.t 107) (.t 108) (.c (.bool false)), none⟩,
  ⟨some 110, .mv (.t 109), none⟩,
  ⟨some 111, .mv (.t 9), some (110, true)⟩,
  ⟨some 112, .mv (.t 9), some (110, true)⟩,
  ⟨some 113, .len .slice (.t 112), some (110, true)⟩,
  ⟨some 114, .bin .sub (.t 113) (.c (.int .i64 (.ofNat 1))), some (110, true)⟩,
  ⟨some 115, .iaddr 6 (.t 111) (.t 114), some (110, true)⟩,
  ⟨some 116, .faddr 3 (.t 115), some (110, true)⟩,
  ⟨some 117, .load 1 false (.t 116), some (110, true)⟩,
  ⟨some 118, .faddr 3 (.t 15), some (110, true)⟩,
  ⟨some 119, .load 1 false (.t 118), some (110, true)⟩,
  ⟨some 120, .bin .eql (.t 117) (.t 119), some (110, true)⟩,
  ⟨some 121, .pick (.t 110) (.t 120) (.c (.bool false)), none⟩]
def f10r24 : List ROper := [
  ⟨some 122, .mv (.t 11), none⟩,
  ⟨some 123, .mv (.t 16), none⟩,
  ⟨some 124, .faddr 3 (.t 15), none⟩,
  ⟨some 125, .load 1 false (.t 124), none⟩,
  ⟨some 126, .call 32 [(.t 122), (.t 123), (.t 125)], none⟩,
  ⟨some 127, .faddr 5 (.t 15), none⟩,
  ⟨none, .store 1 (.t 127) (.t 126), none⟩]
def f10r25 : List ROper := [
  ⟨some 128, .mv (.t 17), none⟩,
  ⟨some 129, .mv (.t 128), none⟩,
  ⟨some 130, .faddr 2 (.t 14), some (129, true)⟩,
  ⟨some 131, .load 1 false (.t 130), some (129, true)⟩,
  ⟨some 132, .bin .eql (.t 131) (.c (.int .i64 (.ofNat 1))), some (129, true)⟩,
  ⟨some 133, .pick (.t 129) (.t 132) (.c (.bool false)), none⟩,
  ⟨some 134, .mv (.t 16), none⟩,
  ⟨some 10, .mv (.t 133), none⟩,
  ⟨some 11, .mv (.t 134), none⟩]
def f10r26 : List ROper := [
  ⟨some 135, .mv (.t 9), none⟩,
  ⟨some 136, .load 6 true (.t 15), none⟩,
  ⟨some 137, .lit 6 true [(.int .i64 (.ofNat 0)), (.int .i64 (.ofNat 0)), (.int .i64 (.ofNat 0)), (.int .i64 (.ofNat 0)), (.int .i64 (.ofNat 0)), (.int .i64 (.ofNat 0))] 1 [(0, (.t 136))], none⟩,
  ⟨some 138, .append 6 true 48 (.t 135) (.t 137), none⟩,
  ⟨some 9, .mv (.t 138), none⟩]
def f10r27 : List ROper := [
  ⟨some 139, .bin .add (.t 36) (.c (.int .i64 (.ofNat 1))), none⟩,
  ⟨some 36, .mv (.t 139), none⟩]
def f10r28 : List ROper := [
  ⟨some 140, .mv (.t 9), none⟩,
  ⟨some 2, .mv (.t 140), none⟩,
  ⟨some 3, .mv (.c (.int .i64 (.ofNat 0))), none⟩]
def f10 : RFunc := ⟨[.t 2, .t 3], (.seq (.region f10r0 [1]) (.seq (.seq (.region f10r1 [1, 4]) (.seq (.region f10r2 [1, 4, 21]) (.cond (.t 21) (.seq (.region f10r3 [2, 3]) .ret) .skip))) (.seq (.region f10r4 [1, 5]) (.seq (.region f10r5 [1, 5, 7]) (.seq (.region f10r6 [1, 5, 7, 8]) (.seq (.region f10r7 [1, 5, 7, 8, 9]) (.seq (.region f10r8 [1, 5, 7, 8, 9, 10, 11]) (.seq (.seq (.region f10r9 [1, 7, 8, 9, 10, 11, 34, 35, 36]) (.block 0 (.loop [1, 7, 8, 9, 10, 11, 34, 35, 36] (.seq (.region f10r10 [1, 7, 8, 9, 10, 11, 34, 35, 36, 37]) (.seq (.cond (.t 37) .skip (.exit 0)) (.seq (.block 1 (.seq (.region f10r11 [1, 7, 8, 9, 10, 11, 13, 34, 35, 36]) (.seq (.region f10r12 [1, 7, 8, 9, 10, 11, 13, 14, 34, 35, 36]) (.seq (.region f10r13 [1, 7, 8, 9, 10, 11, 13, 14, 15, 34, 35, 36]) (.seq (.seq (.region f10r14 [1, 7, 8, 9, 10, 11, 13, 14, 15, 34, 35, 36, 55]) (.cond (.t 55) (.region f10r15 [1, 7, 8, 9, 10, 11, 13, 14, 15, 34, 35, 36]) .skip)) (.seq (.region f10r16 [1, 7, 8, 9, 10, 11, 13, 14, 15, 16, 34, 35, 36]) (.seq (.region f10r17 [1, 7, 8, 9, 10, 11, 13, 14, 15, 16, 17, 34, 35, 36]) (.seq (.block 2 (.seq (.region f10r18 [1, 7, 8, 9, 10, 11, 13, 14, 15, 16, 17, 34, 35, 36, 73]) (.cond (.t 73) (.dregion f10r19 [] [1, 7, 8, 9, 10, 11, 14, 15, 16, 17, 34, 35, 36]) (.seq (.region f10r20 [1, 7, 8, 9, 10, 11, 14, 15, 16, 17, 34, 35, 36, 88]) (.cond (.t 88) (.seq (.dregion f10r21 [] [1, 7, 8, 9, 10, 11, 14, 15, 16, 17, 34, 35, 36]) (.region f10r22 [1, 7, 8, 9, 10, 11, 14, 15, 16, 17, 34, 35, 36])) .skip))))) (.seq (.seq (.dregion f10r23 [] [1, 7, 8, 9, 11, 14, 15, 16, 17, 34, 35, 36, 121]) (.cond (.t 121) (.region f10r24 [1, 7, 8, 9, 14, 15, 16, 17, 34, 35, 36]) .skip)) (.seq (.region f10r25 [1, 7, 8, 9, 10, 11, 15, 34, 35, 36]) (.region f10r26 [1, 7, 8, 9, 10, 11, 34, 35, 36]))))))))))) (.region f10r27 [1, 7, 8, 9, 10, 11, 34, 35, 36]))))))) (.seq (.region f10r28 [2, 3]) .ret))))))))), true⟩

/-! quire/quirekit.SameMasses -/
def f12r0 : List ROper := [
  ⟨some 4, .mv (.c (.bool false)), none⟩]
def f12r1 : List ROper := [
  ⟨some 6, .mv (.t 0), none⟩,
  ⟨some 7, .len .slice (.t 6), none⟩,
  ⟨some 8, .mv (.t 1), none⟩,
  ⟨some 9, .len .slice (.t 8), none⟩,
  ⟨some 10, .bin .neq (.t 7) (.t 9), none⟩]
def f12r2 : List ROper := [
  ⟨some 4, .mv (.c (.bool false)), none⟩]
def f12r3 : List ROper := [
  ⟨some 5, .mv (.c (.int .i64 (.ofNat 0))), none⟩]
def f12r4 : List ROper := [
  ⟨some 11, .mv (.t 5), none⟩,
  ⟨some 12, .mv (.t 0), none⟩,
  ⟨some 13, .len .slice (.t 12), none⟩,
  ⟨some 14, .bin .lss (.t 11) (.t 13), none⟩]
def f12r5 : List ROper := [
  ⟨some 17, .mv (.t 0), none⟩,
  ⟨some 18, .mv (.t 5), none⟩,
  ⟨some 19, .iaddr 6 (.t 17) (.t 18), none⟩,
  ⟨some 20, .load 6 true (.t 19), none⟩,
  ⟨some 21, .mv (.t 1), none⟩,
  ⟨some 22, .mv (.t 5), none⟩,
  ⟨some 23, .iaddr 6 (.t 21) (.t 22), none⟩,
  ⟨some 24, .load 6 true (.t 23), none⟩,
  ⟨some 25, .eq (.agg [.int, .int, .int, .int, .int, .int]) true (.t 20) (.t 24), none⟩]
def f12r6 : List ROper := [
  ⟨some 4, .mv (.c (.bool false)), none⟩]
def f12r7 : List ROper := [
  ⟨some 15, .mv (.t 5), none⟩,
  ⟨some 16, .bin .add (.t 15) (.c (.int .i64 (.ofNat 1))), none⟩,
  ⟨some 5, .mv (.t 16), none⟩]
def f12r8 : List ROper := [
  ⟨some 4, .mv (.c (.bool true)), none⟩]
def f12 : RFunc := ⟨[.t 4], (.seq (.region f12r0 [0, 1]) (.seq (.seq (.region f12r1 [0, 1, 10]) (.cond (.t 10) (.seq (.region f12r2 [4]) .ret) .skip)) (.seq (.seq (.region f12r3 [0, 1, 5]) (.block 0 (.loop [0, 1, 5] (.seq (.seq (.region f12r4 [0, 1, 5, 14]) (.cond (.t 14) .skip (.exit 0))) (.seq (.block 1 (.seq (.dregion f12r5 [] [0, 1, 5, 25]) (.cond (.t 25) (.seq (.region f12r6 [4]) .ret) .skip))) (.region f12r7 [0, 1, 5])))))) (.seq (.region f12r8 [4]) .ret)))), true⟩

/-! quire/metric.Check -/
def f13r0 : List ROper := [
  ⟨some 1, .box 21 (.t 0), none⟩,
  ⟨some 2, .mv (.c (.int .i64 (.ofNat 0))), none⟩]
def f13r1 : List ROper := [
  ⟨some 8, .faddr 0 (.t 1), none⟩,
  ⟨some 9, .load 1 false (.t 8), none⟩,
  ⟨some 10, .call 27 [(.t 9)], none⟩,
  ⟨some 7, .mv (.t 10), none⟩,
  ⟨some 11, .extract (.t 7) 0, none⟩,
  ⟨some 12, .extract (.t 7) 1, none⟩,
  ⟨some 3, .mv (.t 11), none⟩,
  ⟨some 4, .mv (.t 12), none⟩]
def f13r2 : List ROper := [
  ⟨some 13, .mv (.t 4), none⟩,
  ⟨some 14, .bin .neq (.t 13) (.c (.int .i64 (.ofNat 0))), none⟩]
def f13r3 : List ROper := [
  ⟨some 15, .mv (.t 4), none⟩,
  ⟨some 2, .mv (.t 15), none⟩]
def f13r4 : List ROper := [
  ⟨some 16, .faddr 0 (.t 1), none⟩,
  ⟨some 17, .load 1 false (.t 16), none⟩,
  ⟨some 18, .call 40 [(.t 17), (.c (.int .u8 (.ofNat 3)))], none⟩,
  ⟨some 19, .bin .geq (.t 18) (.c (.int .i64 (.ofNat 0))), none⟩]
def f13r5 : List ROper := [
  ⟨some 2, .mv (.c (.int .i64 (.ofNat 4))), none⟩]
def f13r6 : List ROper := [
  ⟨some 20, .faddr 1 (.t 1), none⟩,
  ⟨some 21, .load 1 false (.t 20), none⟩,
  ⟨some 22, .faddr 0 (.t 1), none⟩,
  ⟨some 23, .load 1 false (.t 22), none⟩,
  ⟨some 24, .len .str (.t 23), none⟩,
  ⟨some 25, .call 41 [(.t 21), (.t 24)], none⟩,
  ⟨some 26, .un .not (.t 25), none⟩,
  ⟨some 27, .mv (.t 26), none⟩,
  ⟨some 28, .faddr 2 (.t 1), some (27, false)⟩,
  ⟨some 29, .load 17 true (.t 28), some (27, false)⟩,
  ⟨some 30, .call 42 [(.t 29)], some (27, false)⟩,
  ⟨some 31, .un .not (.t 30), some (27, false)⟩,
  ⟨some 32, .pick (.t 27) (.c (.bool true)) (.t 31), none⟩,
  ⟨some 33, .mv (.t 32), none⟩,
  ⟨some 34, .faddr 19 (.t 1), some (33, false)⟩,
  ⟨some 35, .load 1 false (.t 34), some (33, false)⟩,
  ⟨some 36, .call 43 [(.t 35), (.c (.int .i64 (.ofNat 16)))], some (33, false)⟩,
  ⟨some 37, .un .not (.t 36), some (33, false)⟩,
  ⟨some 38, .pick (.t 33) (.c (.bool true)) (.t 37), none⟩,
  ⟨some 39, .mv (.t 38), none⟩,
  ⟨some 40, .faddr 20 (.t 1), some (39, false)⟩,
  ⟨some 41, .load 1 false (.t 40), some (39, false)⟩,
  ⟨some 42, .len .slice (.t 41), some (39, false)⟩,
  ⟨some 43, .faddr 0 (.t 1), some (39, false)⟩,
  ⟨some 44, .load 1 false (.t 43), some (39, false)⟩,
  ⟨some 45, .call 44 [(.t 44), (.c (.str [2]))], some (39, false)⟩,
  ⟨some 46, .bin .neq (.t 42) (.t 45), some (39, false)⟩,
  ⟨some 47, .pick (.t 39) (.c (.bool true)) (.t 46), none⟩]
def f13r7 : List ROper := [
  ⟨some 2, .mv (.c (.int .i64 (.ofNat 2))), none⟩]
def f13r8 : List ROper := [
  ⟨some 48, .faddr 20 (.t 1), none⟩,
  ⟨some 49, .load 1 false (.t 48), none⟩,
  ⟨some 50, .len .slice (.t 49), none⟩,
  ⟨some 51, .mv (.c (.int .i64 (.ofNat 0))), none⟩]
def f13r9 : List ROper := [
  ⟨some 52, .bin .lss (.t 51) (.t 50), none⟩]
def f13r10 : List ROper := [
  ⟨some 53, .iaddr 1 (.t 49) (.t 51), none⟩,
  ⟨some 54, .load 1 false (.t 53), none⟩,
  ⟨some 6, .mv (.t 54), none⟩]
def f13r11 : List ROper := [
  ⟨some 55, .mv (.t 6), none⟩,
  ⟨some 56, .bin .eql (.t 55) (.c (.str [])), none⟩,
  ⟨some 57, .mv (.t 56), none⟩,
  ⟨some 58, .mv (.t 6), some (57, false)⟩,
  ⟨some 59, .call 43 [(.t 58), (.c (.int .i64 (.ofNat 8)))], some (57, false)⟩,
  ⟨some 60, .un .not (.t 59), some (57, false)⟩,
  ⟨some 61, .pick (.t 57) (.c (.bool true)) (.t 60), none⟩]
def f13r12 : List ROper := [
  ⟨some 2, .mv (.c (.int .i64 (.ofNat 2))), none⟩]
def f13r13 : List ROper := [
  ⟨some 62, .bin .add (.t 51) (.c (.int .i64 (.ofNat 1))), none⟩,
  ⟨some 51, .mv (.t 62), none⟩]
def f13r14 : List ROper := [
  ⟨some 2, .mv (.c (.int .i64 (.ofNat 0))), none⟩]
def f13 : RFunc := ⟨[.t 2], (.seq (.region f13r0 [1]) (.seq (.seq (.region f13r1 [1, 4]) (.seq (.region f13r2 [1, 4, 14]) (.cond (.t 14) (.seq (.region f13r3 [2]) .ret) .skip))) (.seq (.seq (.region f13r4 [1, 19]) (.cond (.t 19) (.seq (.region f13r5 [2]) .ret) .skip)) (.seq (.seq (.dregion f13r6 [] [1, 47]) (.cond (.t 47) (.seq (.region f13r7 [2]) .ret) .skip)) (.seq (.seq (.region f13r8 [49, 50, 51]) (.block 0 (.loop [49, 50, 51] (.seq (.region f13r9 [49, 50, 51, 52]) (.seq (.cond (.t 52) .skip (.exit 0)) (.seq (.block 1 (.seq (.region f13r10 [6, 49, 50, 51]) (.seq (.region f13r11 [49, 50, 51, 61]) (.cond (.t 61) (.seq (.region f13r12 [2]) .ret) .skip)))) (.region f13r13 [49, 50, 51]))))))) (.seq (.region f13r14 [2]) .ret)))))), true⟩

/-! quire/quirelaw07.awake -/
def f16r0 : List ROper := [
  ⟨some 0, .mv (.c (.bool false)), none⟩]
def f16r1 : List ROper := [
  ⟨some 4, .call 25 [], none⟩,
  ⟨some 5, .call 10 [(.t 4)], none⟩,
  ⟨some 3, .mv (.t 5), none⟩,
  ⟨some 6, .extract (.t 3) 0, none⟩,
  ⟨some 7, .extract (.t 3) 1, none⟩,
  ⟨some 1, .mv (.t 6), none⟩,
  ⟨some 2, .mv (.t 7), none⟩]
def f16r2 : List ROper := [
  ⟨some 8, .mv (.t 2), none⟩,
  ⟨some 9, .bin .eql (.t 8) (.c (.int .i64 (.ofNat 0))), none⟩,
  ⟨some 10, .mv (.t 9), none⟩,
  ⟨some 11, .mv (.t 1), some (10, true)⟩,
  ⟨some 12, .build [(.int .i64 (.ofNat 0)), (.int .i64 (.ofNat 0)), (.int .i64 (.ofNat 0)), (.int .i64 (.ofNat 0)), (.int .i64 (.ofNat 0)), (.int .i64 (.ofNat 0))] [(0, 1, (.c (.int .i64 (.ofNat 0)))), (1, 1, (.c (.int .i64 (.ofNat 1)))), (2, 1, (.c (.int .i64 (.ofNat 1)))), (3, 1, (.c (.int .i64 (.ofNat 16)))), (4, 1, (.c (.int .i64 (.ofNat 12))))], some (10, true)⟩,
  ⟨some 13, .build [(.int .i64 (.ofNat 0)), (.int .i64 (.ofNat 0)), (.int .i64 (.ofNat 0)), (.int .i64 (.ofNat 0)), (.int .i64 (.ofNat 0)), (.int .i64 (.ofNat 0))] [(0, 1, (.c (.int .i64 (.ofNat 1)))), (1, 1, (.c (.int .i64 (.ofNat 2)))), (2, 1, (.c (.int .i64 (.ofNat 1)))), (3, 1, (.c (.int .i64 (.ofNat 16)))), (4, 1, (.c (.int .i64 (.ofNat 12)))), (5, 1, (.c (.int .i64 (.negSucc 1))))], some (10, true)⟩,
  ⟨some 14, .lit 6 true [(.int .i64 (.ofNat 0)), (.int .i64 (.ofNat 0)), (.int .i64 (.ofNat 0)), (.int .i64 (.ofNat 0)), (.int .i64 (.ofNat 0)), (.int .i64 (.ofNat 0))] 2 [(0, (.t 12)), (1, (.t 13))], some (10, true)⟩,
  ⟨some 15, .call 12 [(.t 11), (.t 14)], some (10, true)⟩,
  ⟨some 16, .pick (.t 10) (.t 15) (.c (.bool false)), none⟩,
  ⟨some 0, .mv (.t 16), none⟩]
def f16 : RFunc := ⟨[.t 0], (.seq (.region f16r0 []) (.seq (.region f16r1 [1, 2]) (.seq (.region f16r2 [0]) .ret))), true⟩

/-! quire/metric.Width -/
def f17r0 : List ROper := [
  ⟨some 4, .mv (.c (.int .i64 (.ofNat 0))), none⟩,
  ⟨some 5, .mv (.c (.int .i64 (.ofNat 0))), none⟩]
def f17r1 : List ROper := [
  ⟨some 6, .mv (.t 1), none⟩,
  ⟨some 7, .call 51 [(.t 6)], none⟩,
  ⟨some 8, .un .not (.t 7), none⟩]
def f17r2 : List ROper := [
  ⟨some 4, .mv (.c (.int .i64 (.ofNat 0))), none⟩,
  ⟨some 5, .mv (.c (.int .i64 (.ofNat 5))), none⟩]
def f17r3 : List ROper := [
  ⟨some 9, .mv (.t 0), none⟩,
  ⟨some 10, .len .str (.t 9), none⟩,
  ⟨some 11, .bin .gtr (.t 10) (.c (.int .i64 (.ofNat 4096))), none⟩]
def f17r4 : List ROper := [
  ⟨some 4, .mv (.c (.int .i64 (.ofNat 0))), none⟩,
  ⟨some 5, .mv (.c (.int .i64 (.ofNat 3))), none⟩]
def f17r5 : List ROper := [
  ⟨some 12, .mv (.t 0), none⟩,
  ⟨some 13, .mv (.t 1), none⟩,
  ⟨some 14, .call 31 [(.t 12), (.t 13)], none⟩,
  ⟨some 4, .mv (.t 14), none⟩,
  ⟨some 5, .mv (.c (.int .i64 (.ofNat 0))), none⟩]
def f17 : RFunc := ⟨[.t 4, .t 5], (.seq (.region f17r0 [0, 1]) (.seq (.seq (.region f17r1 [0, 1, 8]) (.cond (.t 8) (.seq (.region f17r2 [4, 5]) .ret) .skip)) (.seq (.seq (.region f17r3 [0, 1, 11]) (.cond (.t 11) (.seq (.region f17r4 [4, 5]) .ret) .skip)) (.seq (.region f17r5 [4, 5]) .ret)))), true⟩

/-! quire/metric.Kern -/
def f19r0 : List ROper := [
  ⟨some 6, .mv (.c (.int .i64 (.ofNat 0))), none⟩,
  ⟨some 7, .mv (.c (.int .i64 (.ofNat 0))), none⟩]
def f19r1 : List ROper := [
  ⟨some 8, .mv (.t 2), none⟩,
  ⟨some 9, .call 51 [(.t 8)], none⟩,
  ⟨some 10, .un .not (.t 9), none⟩]
def f19r2 : List ROper := [
  ⟨some 6, .mv (.c (.int .i64 (.ofNat 0))), none⟩,
  ⟨some 7, .mv (.c (.int .i64 (.ofNat 5))), none⟩]
def f19r3 : List ROper := [
  ⟨some 11, .mv (.t 0), none⟩,
  ⟨some 12, .mv (.t 1), none⟩,
  ⟨some 13, .mv (.t 2), none⟩,
  ⟨some 14, .call 32 [(.t 11), (.t 12), (.t 13)], none⟩,
  ⟨some 6, .mv (.t 14), none⟩,
  ⟨some 7, .mv (.c (.int .i64 (.ofNat 0))), none⟩]
def f19 : RFunc := ⟨[.t 6, .t 7], (.seq (.region f19r0 [0, 1, 2]) (.seq (.seq (.region f19r1 [0, 1, 2, 10]) (.cond (.t 10) (.seq (.region f19r2 [6, 7]) .ret) .skip)) (.seq (.region f19r3 [6, 7]) .ret))), true⟩

/-! quire/metric.Em -/
def f21r0 : List ROper := [
  ⟨some 2, .mv (.c (.int .i64 (.ofNat 0))), none⟩]
def f21r1 : List ROper := [
  ⟨some 4, .mv (.t 0), none⟩,
  ⟨some 5, .call 40 [(.c (.str [105, 106, 108, 39, 46, 44, 58, 59, 33, 124])), (.t 4)], none⟩,
  ⟨some 6, .bin .geq (.t 5) (.c (.int .i64 (.ofNat 0))), none⟩,
  ⟨some 3, .mv (.t 6), none⟩]
def f21r2 : List ROper := [
  ⟨some 2, .mv (.c (.int .i64 (.ofNat 2))), none⟩]
def f21r3 : List ROper := [
  ⟨some 8, .mv (.t 0), none⟩,
  ⟨some 9, .call 40 [(.c (.str [102, 116, 114, 40, 41, 91, 93, 123, 125, 45, 34, 94, 95, 126, 96, 73, 32])), (.t 8)], none⟩,
  ⟨some 10, .bin .geq (.t 9) (.c (.int .i64 (.ofNat 0))), none⟩,
  ⟨some 7, .mv (.t 10), none⟩]
def f21r4 : List ROper := [
  ⟨some 2, .mv (.c (.int .i64 (.ofNat 3))), none⟩]
def f21r5 : List ROper := [
  ⟨some 12, .mv (.t 0), none⟩,
  ⟨some 13, .bin .eql (.t 12) (.c (.int .u8 (.ofNat 109))), none⟩,
  ⟨some 14, .mv (.t 13), none⟩,
  ⟨some 15, .mv (.t 0), some (14, false)⟩,
  ⟨some 16, .bin .eql (.t 15) (.c (.int .u8 (.ofNat 119))), some (14, false)⟩,
  ⟨some 17, .pick (.t 14) (.c (.bool true)) (.t 16), none⟩,
  ⟨some 11, .mv (.t 17), none⟩]
def f21r6 : List ROper := [
  ⟨some 2, .mv (.c (.int .i64 (.ofNat 7))), none⟩]
def f21r7 : List ROper := [
  ⟨some 19, .mv (.t 0), none⟩,
  ⟨some 20, .bin .eql (.t 19) (.c (.int .u8 (.ofNat 77))), none⟩,
  ⟨some 21, .mv (.t 20), none⟩,
  ⟨some 22, .mv (.t 0), some (21, false)⟩,
  ⟨some 23, .bin .eql (.t 22) (.c (.int .u8 (.ofNat 87))), some (21, false)⟩,
  ⟨some 24, .pick (.t 21) (.c (.bool true)) (.t 23), none⟩,
  ⟨some 18, .mv (.t 24), none⟩]
def f21r8 : List ROper := [
  ⟨some 2, .mv (.c (.int .i64 (.ofNat 8))), none⟩]
def f21r9 : List ROper := [
  ⟨some 26, .mv (.t 0), none⟩,
  ⟨some 27, .bin .geq (.t 26) (.c (.int .u8 (.ofNat 65))), none⟩,
  ⟨some 28, .mv (.t 27), none⟩,
  ⟨some 29, .mv (.t 0), some (28, true)⟩,
  ⟨some 30, .bin .leq (.t 29) (.c (.int .u8 (.ofNat 90))), some (28, true)⟩,
  ⟨some 31, .pick (.t 28) (.t 30) (.c (.bool false)), none⟩,
  ⟨some 25, .mv (.t 31), none⟩]
def f21r10 : List ROper := [
  ⟨some 2, .mv (.c (.int .i64 (.ofNat 6))), none⟩]
def f21r11 : List ROper := [
  ⟨some 33, .mv (.t 0), none⟩,
  ⟨some 34, .bin .geq (.t 33) (.c (.int .u8 (.ofNat 97))), none⟩,
  ⟨some 35, .mv (.t 34), none⟩,
  ⟨some 36, .mv (.t 0), some (35, true)⟩,
  ⟨some 37, .bin .leq (.t 36) (.c (.int .u8 (.ofNat 122))), some (35, true)⟩,
  ⟨some 38, .pick (.t 35) (.t 37) (.c (.bool false)), none⟩,
  ⟨some 39, .mv (.t 38), none⟩,
  ⟨some 40, .mv (.t 0), some (39, false)⟩,
  ⟨some 41, .bin .geq (.t 40) (.c (.int .u8 (.ofNat 48))), some (39, false)⟩,
  ⟨some 42, .mv (.t 41), some (39, false)⟩,
  ⟨some 43, .mv (.t 0), some (42, true)⟩,
  ⟨some 44, .bin .leq (.t 43) (.c (.int .u8 (.ofNat 57))), some (42, true)⟩,
  ⟨some 45, .pick (.t 42) (.t 44) (.c (.bool false)), some (39, false)⟩,
  ⟨some 46, .pick (.t 39) (.c (.bool true)) (.t 45), none⟩,
  ⟨some 32, .mv (.t 46), none⟩]
def f21r12 : List ROper := [
  ⟨some 2, .mv (.c (.int .i64 (.ofNat 5))), none⟩]
def f21r13 : List ROper := [
  ⟨some 48, .mv (.t 0), none⟩,
  ⟨some 49, .bin .gtr (.t 48) (.c (.int .u8 (.ofNat 32))), none⟩,
  ⟨some 50, .mv (.t 49), none⟩,
  ⟨some 51, .mv (.t 0), some (50, true)⟩,
  ⟨some 52, .bin .leq (.t 51) (.c (.int .u8 (.ofNat 126))), some (50, true)⟩,
  ⟨some 53, .pick (.t 50) (.t 52) (.c (.bool false)), none⟩,
  ⟨some 47, .mv (.t 53), none⟩]
def f21r14 : List ROper := [
  ⟨some 2, .mv (.c (.int .i64 (.ofNat 6))), none⟩]
def f21r15 : List ROper := [
  ⟨some 2, .mv (.c (.int .i64 (.ofNat 0))), none⟩]
def f21 : RFunc := ⟨[.t 2], (.seq (.region f21r0 [0]) (.seq (.block 0 (.seq (.region f21r1 [0, 3]) (.cond (.t 3) (.seq (.region f21r2 [2]) .ret) (.seq (.region f21r3 [0, 7]) (.cond (.t 7) (.seq (.region f21r4 [2]) .ret) (.seq (.region f21r5 [0, 11]) (.cond (.t 11) (.seq (.region f21r6 [2]) .ret) (.seq (.region f21r7 [0, 18]) (.cond (.t 18) (.seq (.region f21r8 [2]) .ret) (.seq (.region f21r9 [0, 25]) (.cond (.t 25) (.seq (.region f21r10 [2]) .ret) (.seq (.region f21r11 [0, 32]) (.cond (.t 32) (.seq (.region f21r12 [2]) .ret) (.seq (.region f21r13 [47]) (.cond (.t 47) (.seq (.region f21r14 [2]) .ret) .skip))))))))))))))) (.seq (.region f21r15 [2]) .ret))), true⟩

/-! quire/metric.Natural -/
def f23r0 : List ROper := [
  ⟨some 6, .mv (.c (.int .i64 (.ofNat 0))), none⟩,
  ⟨some 7, .mv (.c (.int .i64 (.ofNat 0))), none⟩]
def f23r1 : List ROper := [
  ⟨some 13, .mv (.t 0), none⟩,
  ⟨some 14, .len .slice (.t 13), none⟩,
  ⟨some 15, .bin .gtr (.t 14) (.c (.int .i64 (.ofNat 4096))), none⟩]
def f23r2 : List ROper := [
  ⟨some 6, .mv (.c (.int .i64 (.ofNat 0))), none⟩,
  ⟨some 7, .mv (.c (.int .i64 (.ofNat 3))), none⟩]
def f23r3 : List ROper := [
  ⟨some 16, .mv (.t 0), none⟩,
  ⟨some 17, .len .slice (.t 16), none⟩,
  ⟨some 18, .mv (.c (.int .i64 (.ofNat 0))), none⟩]
def f23r4 : List ROper := [
  ⟨some 19, .bin .lss (.t 18) (.t 17), none⟩]
def f23r5 : List ROper := [
  ⟨some 20, .iaddr 6 (.t 16) (.t 18), none⟩,
  ⟨some 21, .load 6 true (.t 20), none⟩,
  ⟨some 9, .alloc [(.int .i64 (.ofNat 0)), (.int .i64 (.ofNat 0)), (.int .i64 (.ofNat 0)), (.int .i64 (.ofNat 0)), (.int .i64 (.ofNat 0)), (.int .i64 (.ofNat 0))], none⟩,
  ⟨none, .store 6 (.t 9) (.t 21), none⟩]
def f23r6 : List ROper := [
  ⟨some 22, .faddr 4 (.t 9), none⟩,
  ⟨some 23, .load 1 false (.t 22), none⟩,
  ⟨some 24, .bin .lss (.t 23) (.c (.int .i64 (.ofNat 0))), none⟩,
  ⟨some 25, .mv (.t 24), none⟩,
  ⟨some 26, .faddr 4 (.t 9), some (25, false)⟩,
  ⟨some 27, .load 1 false (.t 26), some (25, false)⟩,
  ⟨some 28, .bin .gtr (.t 27) (.c (.int .i64 (.ofNat 4095))), some (25, false)⟩,
  ⟨some 29, .pick (.t 25) (.c (.bool true)) (.t 28), none⟩,
  ⟨some 30, .mv (.t 29), none⟩,
  ⟨some 31, .faddr 5 (.t 9), some (30, false)⟩,
  ⟨some 32, .load 1 false (.t 31), some (30, false)⟩,
  ⟨some 33, .bin .lss (.t 32) (.c (.int .i64 (.negSucc 63))), some (30, false)⟩,
  ⟨some 34, .pick (.t 30) (.c (.bool true)) (.t 33), none⟩,
  ⟨some 35, .mv (.t 34), none⟩,
  ⟨some 36, .faddr 5 (.t 9), some (35, false)⟩,
  ⟨some 37, .load 1 false (.t 36), some (35, false)⟩,
  ⟨some 38, .bin .gtr (.t 37) (.c (.int .i64 (.ofNat 0))), some (35, false)⟩,
  ⟨some 39, .pick (.t 35) (.c (.bool true)) (.t 38), none⟩]
def f23r7 : List ROper := [
  ⟨some 6, .mv (.c (.int .i64 (.ofNat 0))), none⟩,
  ⟨some 7, .mv (.c (.int .i64 (.ofNat 2))), none⟩]
def f23r8 : List ROper := [
  ⟨some 40, .bin .add (.t 18) (.c (.int .i64 (.ofNat 1))), none⟩,
  ⟨some 18, .mv (.t 40), none⟩]
def f23r9 : List ROper := [
  ⟨some 41, .mv (.t 1), none⟩,
  ⟨some 42, .bin .lss (.t 41) (.c (.int .i64 (.ofNat 0))), none⟩,
  ⟨some 43, .mv (.t 42), none⟩,
  ⟨some 44, .mv (.t 2), some (43, false)⟩,
  ⟨some 45, .mv (.t 1), some (43, false)⟩,
  ⟨some 46, .bin .lss (.t 44) (.t 45), some (43, false)⟩,
  ⟨some 47, .pick (.t 43) (.c (.bool true)) (.t 46), none⟩,
  ⟨some 48, .mv (.t 47), none⟩,
  ⟨some 49, .mv (.t 2), some (48, false)⟩,
  ⟨some 50, .mv (.t 0), some (48, false)⟩,
  ⟨some 51, .len .slice (.t 50), some (48, false)⟩,
  ⟨some 52, .bin .gtr (.t 49) (.t 51), some (48, false)⟩,
  ⟨some 53, .pick (.t 48) (.c (.bool true)) (.t 52), none⟩]
def f23r10 : List ROper := [
  ⟨some 6, .mv (.c (.int .i64 (.ofNat 0))), none⟩,
  ⟨some 7, .mv (.c (.int .i64 (.ofNat 5))), none⟩]
def f23r11 : List ROper := [
  ⟨some 10, .mv (.c (.int .i64 (.ofNat 0))), none⟩]
def f23r12 : List ROper := [
  ⟨some 54, .mv (.t 0), none⟩,
  ⟨some 55, .mv (.t 1), none⟩,
  ⟨some 56, .mv (.t 2), none⟩,
  ⟨some 57, .slice false 6 (.t 54) (some (.t 55)) (some (.t 56)) none, none⟩,
  ⟨some 58, .len .slice (.t 57), none⟩,
  ⟨some 59, .mv (.c (.int .i64 (.ofNat 0))), none⟩]
def f23r13 : List ROper := [
  ⟨some 60, .bin .lss (.t 59) (.t 58), none⟩]
def f23r14 : List ROper := [
  ⟨some 61, .mv (.t 59), none⟩,
  ⟨some 62, .iaddr 6 (.t 57) (.t 59), none⟩,
  ⟨some 63, .load 6 true (.t 62), none⟩,
  ⟨some 12, .alloc [(.int .i64 (.ofNat 0)), (.int .i64 (.ofNat 0)), (.int .i64 (.ofNat 0)), (.int .i64 (.ofNat 0)), (.int .i64 (.ofNat 0)), (.int .i64 (.ofNat 0))], none⟩,
  ⟨some 11, .mv (.t 61), none⟩,
  ⟨none, .store 6 (.t 12) (.t 63), none⟩]
def f23r15 : List ROper := [
  ⟨some 64, .mv (.t 10), none⟩,
  ⟨some 65, .faddr 4 (.t 12), none⟩,
  ⟨some 66, .load 1 false (.t 65), none⟩,
  ⟨some 67, .bin .add (.t 64) (.t 66), none⟩,
  ⟨some 10, .mv (.t 67), none⟩]
def f23r16 : List ROper := [
  ⟨some 68, .mv (.t 11), none⟩,
  ⟨some 69, .bin .gtr (.t 68) (.c (.int .i64 (.ofNat 0))), none⟩]
def f23r17 : List ROper := [
  ⟨some 70, .mv (.t 10), none⟩,
  ⟨some 71, .faddr 5 (.t 12), none⟩,
  ⟨some 72, .load 1 false (.t 71), none⟩,
  ⟨some 73, .bin .add (.t 70) (.t 72), none⟩,
  ⟨some 10, .mv (.t 73), none⟩]
def f23r18 : List ROper := [
  ⟨some 74, .bin .add (.t 59) (.c (.int .i64 (.ofNat 1))), none⟩,
  ⟨some 59, .mv (.t 74), none⟩]
def f23r19 : List ROper := [
  ⟨some 75, .mv (.t 10), none⟩,
  ⟨some 6, .mv (.t 75), none⟩,
  ⟨some 7, .mv (.c (.int .i64 (.ofNat 0))), none⟩]
def f23 : RFunc := ⟨[.t 6, .t 7], (.seq (.region f23r0 [0, 1, 2]) (.seq (.seq (.region f23r1 [0, 1, 2, 15]) (.cond (.t 15) (.seq (.region f23r2 [6, 7]) .ret) .skip)) (.seq (.seq (.region f23r3 [0, 1, 2, 16, 17, 18]) (.block 0 (.loop [0, 1, 2, 16, 17, 18] (.seq (.region f23r4 [0, 1, 2, 16, 17, 18, 19]) (.seq (.cond (.t 19) .skip (.exit 0)) (.seq (.block 1 (.seq (.region f23r5 [0, 1, 2, 9, 16, 17, 18]) (.seq (.region f23r6 [0, 1, 2, 16, 17, 18, 39]) (.cond (.t 39) (.seq (.region f23r7 [6, 7]) .ret) .skip)))) (.region f23r8 [0, 1, 2, 16, 17, 18]))))))) (.seq (.seq (.region f23r9 [0, 1, 2, 53]) (.cond (.t 53) (.seq (.region f23r10 [6, 7]) .ret) .skip)) (.seq (.region f23r11 [0, 1, 2, 10]) (.seq (.seq (.region f23r12 [10, 57, 58, 59]) (.block 2 (.loop [10, 57, 58, 59] (.seq (.region f23r13 [10, 57, 58, 59, 60]) (.seq (.cond (.t 60) .skip (.exit 2)) (.seq (.block 3 (.seq (.region f23r14 [10, 11, 12, 57, 58, 59]) (.seq (.region f23r15 [10, 11, 12, 57, 58, 59]) (.seq (.region f23r16 [10, 12, 57, 58, 59, 69]) (.cond (.t 69) (.region f23r17 [10, 57, 58, 59]) .skip))))) (.region f23r18 [10, 57, 58, 59]))))))) (.seq (.region f23r19 [6, 7]) .ret))))))), true⟩

/-! quire/quirelaw07.example -/
def f25r0 : List ROper := [
  ⟨some 0, .alloc [(.str []), (.list 0 0 .no false []), (.int .i64 (.ofNat 0)), (.int .i64 (.ofNat 0)), (.int .i64 (.ofNat 0)), (.int .i64 (.ofNat 0)), (.int .i64 (.ofNat 0)), (.int .i64 (.ofNat 0)), (.int .i64 (.ofNat 0)), (.int .i64 (.ofNat 0)), (.int .i64 (.ofNat 0)), (.int .i64 (.ofNat 0)), (.int .i64 (.ofNat 0)), (.int .i64 (.ofNat 0)), (.int .i64 (.ofNat 0)), (.int .i64 (.ofNat 0)), (.int .i64 (.ofNat 0)), (.int .i64 (.ofNat 0)), (.int .i64 (.ofNat 0)), (.str []), (.list 0 0 .no false [])], none⟩]
def f25r1 : List ROper := [
  ⟨some 1, .build [(.int .i64 (.ofNat 0)), (.int .i64 (.ofNat 0)), (.int .i64 (.ofNat 0))] [(2, 1, (.c (.int .i64 (.ofNat 1))))], none⟩,
  ⟨some 2, .build [(.int .i64 (.ofNat 0)), (.int .i64 (.ofNat 0)), (.int .i64 (.ofNat 0)), (.int .i64 (.ofNat 0))] [(0, 1, (.c (.int .i64 (.ofNat 2)))), (1, 3, (.t 1))], none⟩,
  ⟨some 3, .lit 4 true [(.int .i64 (.ofNat 0)), (.int .i64 (.ofNat 0)), (.int .i64 (.ofNat 0)), (.int .i64 (.ofNat 0))] 1 [(0, (.t 2))], none⟩,
  ⟨some 4, .call 26 [(.c (.int .i64 (.ofNat 16)))], none⟩,
  ⟨some 5, .build [(.str []), (.list 0 0 .no false []), (.int .i64 (.ofNat 0)), (.int .i64 (.ofNat 0)), (.int .i64 (.ofNat 0)), (.int .i64 (.ofNat 0)), (.int .i64 (.ofNat 0)), (.int .i64 (.ofNat 0)), (.int .i64 (.ofNat 0)), (.int .i64 (.ofNat 0)), (.int .i64 (.ofNat 0)), (.int .i64 (.ofNat 0)), (.int .i64 (.ofNat 0)), (.int .i64 (.ofNat 0)), (.int .i64 (.ofNat 0)), (.int .i64 (.ofNat 0)), (.int .i64 (.ofNat 0)), (.int .i64 (.ofNat 0)), (.int .i64 (.ofNat 0)), (.str []), (.list 0 0 .no false [])] [(0, 1, (.c (.str [65, 86]))), (1, 1, (.t 3)), (2, 17, (.t 4))], none⟩,
  ⟨none, .store 21 (.t 0) (.t 5), none⟩]
def f25 : RFunc := ⟨[.cell 0 21 true], (.seq (.region f25r0 [0]) (.seq (.region f25r1 [0]) .ret)), true⟩

/-! quire/quirelaw07.Plain -/
def f26r0 : List ROper := [
  ⟨some 2, .alloc [(.int .i64 (.ofNat 0)), (.int .i64 (.ofNat 0)), (.int .i64 (.ofNat 0)), (.int .i64 (.ofNat 0)), (.int .i64 (.ofNat 0)), (.int .i64 (.ofNat 0)), (.int .i64 (.ofNat 0)), (.int .i64 (.ofNat 0)), (.int .i64 (.ofNat 0)), (.int .i64 (.ofNat 0)), (.int .i64 (.ofNat 0)), (.int .i64 (.ofNat 0)), (.int .i64 (.ofNat 0)), (.int .i64 (.ofNat 0)), (.int .i64 (.ofNat 0)), (.int .i64 (.ofNat 0)), (.int .i64 (.ofNat 0))], none⟩]
def f26r1 : List ROper := [
  ⟨some 3, .mv (.t 0), none⟩,
  ⟨some 4, .build [(.int .i64 (.ofNat 0)), (.int .i64 (.ofNat 0)), (.int .i64 (.ofNat 0)), (.int .i64 (.ofNat 0)), (.int .i64 (.ofNat 0)), (.int .i64 (.ofNat 0)), (.int .i64 (.ofNat 0)), (.int .i64 (.ofNat 0)), (.int .i64 (.ofNat 0)), (.int .i64 (.ofNat 0)), (.int .i64 (.ofNat 0)), (.int .i64 (.ofNat 0)), (.int .i64 (.ofNat 0)), (.int .i64 (.ofNat 0)), (.int .i64 (.ofNat 0)), (.int .i64 (.ofNat 0)), (.int .i64 (.ofNat 0))] [(0, 1, (.t 3)), (1, 1, (.c (.int .i64 (.ofNat 12)))), (10, 1, (.c (.int .i64 (.ofNat 1)))), (11, 1, (.c (.int .i64 (.ofNat 1))))], none⟩,
  ⟨none, .store 17 (.t 2) (.t 4), none⟩]
def f26 : RFunc := ⟨[.cell 2 17 true], (.seq (.region f26r0 [0, 2]) (.seq (.region f26r1 [2]) .ret)), true⟩

/-! quire/cluster.Split -/
def f27r0 : List ROper := [
  ⟨some 2, .mv (.c (.list 0 0 .no false [])), none⟩,
  ⟨some 3, .mv (.c (.int .i64 (.ofNat 0))), none⟩]
def f27r1 : List ROper := [
  ⟨some 7, .mv (.t 0), none⟩,
  ⟨some 8, .call 54 [(.t 7)], none⟩,
  ⟨some 4, .mv (.t 8), none⟩]
def f27r2 : List ROper := [
  ⟨some 9, .mv (.t 4), none⟩,
  ⟨some 10, .bin .neq (.t 9) (.c (.int .i64 (.ofNat 0))), none⟩]
def f27r3 : List ROper := [
  ⟨some 11, .mv (.t 4), none⟩,
  ⟨some 2, .mv (.c (.list 0 0 .no false [])), none⟩,
  ⟨some 3, .mv (.t 11), none⟩]
def f27r4 : List ROper := [
  ⟨some 5, .alloc [(.list 0 0 .no false [])], none⟩]
def f27r5 : List ROper := [
  ⟨some 12, .mv (.t 0), none⟩,
  ⟨some 13, .call 55 [(.t 12)], none⟩]
def f27r6 : List ROper := [
  ⟨some 6, .alloc [(.int .i64 (.ofNat 0)), (.int .i64 (.ofNat 0)), (.int .i64 (.ofNat 0))], none⟩,
  ⟨none, .store 3 (.t 6) (.t 14), none⟩]
def f27r7 : List ROper := [
  ⟨some 15, .load 1 false (.t 5), none⟩,
  ⟨some 16, .load 3 true (.t 6), none⟩,
  ⟨some 17, .lit 3 true [(.int .i64 (.ofNat 0)), (.int .i64 (.ofNat 0)), (.int .i64 (.ofNat 0))] 1 [(0, (.t 16))], none⟩,
  ⟨some 18, .append 3 true 24 (.t 15) (.t 17), none⟩,
  ⟨none, .store 1 (.t 5) (.t 18), none⟩]
def f27r8 : List ROper := [
  ⟨some 19, .load 1 false (.t 5), none⟩,
  ⟨some 2, .mv (.t 19), none⟩,
  ⟨some 3, .mv (.c (.int .i64 (.ofNat 0))), none⟩]
def f27 : RFunc := ⟨[.t 2, .t 3], (.seq (.region f27r0 [0]) (.seq (.seq (.region f27r1 [0, 4]) (.seq (.region f27r2 [0, 4, 10]) (.cond (.t 10) (.seq (.region f27r3 [2, 3]) .ret) .skip))) (.seq (.region f27r4 [0, 5]) (.seq (.seq (.region f27r5 [5, 13]) (.block 0 (.rfunc (.t 13) [14] (.region f27r6 [5, 6]) (.block 1 (.region f27r7 [])) [5, 13]))) (.seq (.region f27r8 [2, 3]) .ret))))), true⟩

/-! quire/metric.looks -/
def f29r0 : List ROper := [
  ⟨some 1, .box 1 (.t 0), none⟩,
  ⟨some 2, .mv (.c .nilfn), none⟩]
def f29r1 : List ROper := [
  ⟨some 3, .alloc [(.int .i64 (.ofNat 0))], none⟩,
  ⟨none, .store 1 (.t 3) (.c (.int .i64 (.ofNat 0))), none⟩]
def f29r2 : List ROper := [
  ⟨some 4, .load 1 false (.t 1), none⟩,
  ⟨some 5, .len .slice (.t 4), none⟩,
  ⟨some 6, .bin .gtr (.t 5) (.c (.int .i64 (.ofNat 0))), none⟩]
def f29r3 : List ROper := [
  ⟨some 7, .load 1 false (.t 1), none⟩,
  ⟨some 8, .iaddr 4 (.t 7) (.c (.int .i64 (.ofNat 0))), none⟩,
  ⟨some 9, .faddr 0 (.t 8), none⟩,
  ⟨some 10, .load 1 false (.t 9), none⟩,
  ⟨none, .store 1 (.t 3) (.t 10), none⟩]
def f29r4 : List ROper := [
  ⟨some 11, .mkfn 56 [] [(.t 1), (.t 3)], none⟩,
  ⟨some 2, .mv (.t 11), none⟩]
def f29 : RFunc := ⟨[.t 2], (.seq (.region f29r0 [1]) (.seq (.region f29r1 [1, 3]) (.seq (.seq (.region f29r2 [1, 3, 6]) (.cond (.t 6) (.region f29r3 [1, 3]) .skip)) (.seq (.region f29r4 [2]) .ret)))), false⟩

/-! quire/metric.wide -/
def f30r0 : List ROper := [
  ⟨some 4, .mv (.c (.int .i64 (.ofNat 0))), none⟩]
def f30r1 : List ROper := [
  ⟨some 5, .mv (.t 0), none⟩,
  ⟨some 6, .call 21 [(.t 5)], none⟩,
  ⟨some 7, .mv (.t 1), none⟩,
  ⟨some 8, .bin .mul (.t 6) (.t 7), none⟩,
  ⟨some 9, .bin .quo (.t 8) (.c (.int .i64 (.ofNat 8))), none⟩,
  ⟨some 4, .mv (.t 9), none⟩]
def f30 : RFunc := ⟨[.t 4], (.seq (.region f30r0 [0, 1]) (.seq (.region f30r1 [4]) .ret)), true⟩

/-! quire/metric.text -/
def f31r0 : List ROper := [
  ⟨some 4, .mv (.c (.int .i64 (.ofNat 0))), none⟩]
def f31r1 : List ROper := [
  ⟨some 5, .mv (.c (.int .i64 (.ofNat 0))), none⟩]
def f31r2 : List ROper := [
  ⟨some 8, .mv (.t 0), none⟩,
  ⟨some 9, .s2b (.t 8), none⟩,
  ⟨some 10, .len .slice (.t 9), none⟩,
  ⟨some 11, .mv (.c (.int .i64 (.ofNat 0))), none⟩]
def f31r3 : List ROper := [
  ⟨some 12, .bin .lss (.t 11) (.t 10), none⟩]
def f31r4 : List ROper := [
  ⟨some 13, .iaddr 1 (.t 9) (.t 11), none⟩,
  ⟨some 14, .load 1 false (.t 13), none⟩,
  ⟨some 7, .mv (.t 14), none⟩]
def f31r5 : List ROper := [
  ⟨some 15, .mv (.t 5), none⟩,
  ⟨some 16, .mv (.t 7), none⟩,
  ⟨some 17, .mv (.t 1), none⟩,
  ⟨some 18, .call 30 [(.t 16), (.t 17)], none⟩,
  ⟨some 19, .bin .add (.t 15) (.t 18), none⟩,
  ⟨some 5, .mv (.t 19), none⟩]
def f31r6 : List ROper := [
  ⟨some 20, .bin .add (.t 11) (.c (.int .i64 (.ofNat 1))), none⟩,
  ⟨some 11, .mv (.t 20), none⟩]
def f31r7 : List ROper := [
  ⟨some 21, .mv (.t 5), none⟩,
  ⟨some 4, .mv (.t 21), none⟩]
def f31 : RFunc := ⟨[.t 4], (.seq (.region f31r0 [0, 1]) (.seq (.region f31r1 [0, 1, 5]) (.seq (.seq (.region f31r2 [1, 5, 9, 10, 11]) (.block 0 (.loop [1, 5, 9, 10, 11] (.seq (.region f31r3 [1, 5, 9, 10, 11, 12]) (.seq (.cond (.t 12) .skip (.exit 0)) (.seq (.block 1 (.seq (.region f31r4 [1, 5, 7, 9, 10, 11]) (.region f31r5 [1, 5, 9, 10, 11]))) (.region f31r6 [1, 5, 9, 10, 11]))))))) (.seq (.region f31r7 [4]) .ret)))), true⟩

/-! quire/metric.nearer -/
def f32r0 : List ROper := [
  ⟨some 6, .mv (.c (.int .i64 (.ofNat 0))), none⟩]
def f32r1 : List ROper := [
  ⟨some 7, .mv (.c (.int .i64 (.ofNat 0))), none⟩]
def f32r2 : List ROper := [
  ⟨some 8, .mv (.t 0), none⟩,
  ⟨some 9, .mv (.t 1), none⟩,
  ⟨some 10, .call 57 [(.c (.str [65, 84, 32, 65, 86, 32, 65, 87, 32, 65, 89, 32, 84, 65, 32, 86, 65, 32, 87, 65, 32, 89, 65, 32, 76, 84, 32, 76, 86, 32, 76, 89, 32, 80, 65, 32, 84, 111, 32, 84, 97, 32, 84, 101, 32, 86, 111, 32, 86, 97, 32, 89, 111, 32, 89, 97, 32])), (.t 8), (.t 9)], none⟩]
def f32r3 : List ROper := [
  ⟨some 7, .mv (.c (.int .i64 (.ofNat 2))), none⟩]
def f32r4 : List ROper := [
  ⟨some 11, .mv (.t 0), none⟩,
  ⟨some 12, .mv (.t 1), none⟩,
  ⟨some 13, .call 57 [(.c (.str [114, 46, 32, 114, 44, 32, 102, 46, 32, 102, 44, 32, 118, 46, 32, 121, 46, 32, 65, 118, 32, 65, 121, 32, 111, 118, 32, 118, 111, 32])), (.t 11), (.t 12)], none⟩]
def f32r5 : List ROper := [
  ⟨some 7, .mv (.c (.int .i64 (.ofNat 1))), none⟩]
def f32r6 : List ROper := [
  ⟨some 14, .mv (.t 7), none⟩,
  ⟨some 15, .mv (.t 2), none⟩,
  ⟨some 16, .bin .mul (.t 14) (.t 15), none⟩,
  ⟨some 17, .bin .quo (.t 16) (.c (.int .i64 (.ofNat 16))), none⟩,
  ⟨some 18, .un .neg (.t 17), none⟩,
  ⟨some 6, .mv (.t 18), none⟩]
def f32 : RFunc := ⟨[.t 6], (.seq (.region f32r0 [0, 1, 2]) (.seq (.region f32r1 [0, 1, 2, 7]) (.seq (.seq (.region f32r2 [0, 1, 2, 7, 10]) (.cond (.t 10) (.region f32r3 [0, 1, 2, 7]) .skip)) (.seq (.seq (.region f32r4 [2, 7, 13]) (.cond (.t 13) (.region f32r5 [2, 7]) .skip)) (.seq (.region f32r6 [6]) .ret))))), true⟩

/-! strings.IndexByte -/
def f40r0 : List ROper := [
  ⟨some 4, .mv (.c (.int .i64 (.ofNat 0))), none⟩]
def f40r1 : List ROper := [
  ⟨some 5, .mv (.t 0), none⟩,
  ⟨some 6, .mv (.t 1), none⟩,
  ⟨some 7, .call 61 [(.t 5), (.t 6)], none⟩,
  ⟨some 4, .mv (.t 7), none⟩]
def f40 : RFunc := ⟨[.t 4], (.seq (.region f40r0 [0, 1]) (.seq (.region f40r1 [4]) .ret)), true⟩

/-! quire/metric.spans -/
def f41r0 : List ROper := [
  ⟨some 4, .mv (.c (.bool false)), none⟩]
def f41r1 : List ROper := [
  ⟨some 7, .mv (.t 0), none⟩,
  ⟨some 8, .len .slice (.t 7), none⟩,
  ⟨some 9, .mv (.c (.int .i64 (.ofNat 0))), none⟩]
def f41r2 : List ROper := [
  ⟨some 10, .bin .lss (.t 9) (.t 8), none⟩]
def f41r3 : List ROper := [
  ⟨some 11, .iaddr 4 (.t 7) (.t 9), none⟩,
  ⟨some 12, .load 4 true (.t 11), none⟩,
  ⟨some 6, .alloc [(.int .i64 (.ofNat 0)), (.int .i64 (.ofNat 0)), (.int .i64 (.ofNat 0)), (.int .i64 (.ofNat 0))], none⟩,
  ⟨none, .store 4 (.t 6) (.t 12), none⟩]
def f41r4 : List ROper := [
  ⟨some 13, .faddr 0 (.t 6), none⟩,
  ⟨some 14, .load 1 false (.t 13), none⟩,
  ⟨some 15, .bin .lss (.t 14) (.c (.int .i64 (.ofNat 1))), none⟩,
  ⟨some 16, .mv (.t 15), none⟩,
  ⟨some 17, .faddr 0 (.t 6), some (16, false)⟩,
  ⟨some 18, .load 1 false (.t 17), some (16, false)⟩,
  ⟨some 19, .mv (.t 1), some (16, false)⟩,
  ⟨some 20, .bin .gtr (.t 18) (.t 19), some (16, false)⟩,
  ⟨some 21, .pick (.t 16) (.c (.bool true)) (.t 20), none⟩,
  ⟨some 22, .mv (.t 21), none⟩,
  ⟨some 23, .faddr 1 (.t 6), some (22, false)⟩,
  ⟨some 24, .load 3 true (.t 23), some (22, false)⟩,
  ⟨some 25, .call 62 [(.t 24)], some (22, false)⟩,
  ⟨some 26, .un .not (.t 25), some (22, false)⟩,
  ⟨some 27, .pick (.t 22) (.c (.bool true)) (.t 26), none⟩]
def f41r5 : List ROper := [
  ⟨some 4, .mv (.c (.bool false)), none⟩]
def f41r6 : List ROper := [
  ⟨some 28, .mv (.t 1), none⟩,
  ⟨some 29, .faddr 0 (.t 6), none⟩,
  ⟨some 30, .load 1 false (.t 29), none⟩,
  ⟨some 31, .bin .sub (.t 28) (.t 30), none⟩,
  ⟨some 1, .mv (.t 31), none⟩]
def f41r7 : List ROper := [
  ⟨some 32, .bin .add (.t 9) (.c (.int .i64 (.ofNat 1))), none⟩,
  ⟨some 9, .mv (.t 32), none⟩]
def f41r8 : List ROper := [
  ⟨some 33, .mv (.t 1), none⟩,
  ⟨some 34, .bin .eql (.t 33) (.c (.int .i64 (.ofNat 0))), none⟩,
  ⟨some 4, .mv (.t 34), none⟩]
def f41 : RFunc := ⟨[.t 4], (.seq (.region f41r0 [0, 1]) (.seq (.seq (.region f41r1 [1, 7, 8, 9]) (.block 0 (.loop [1, 7, 8, 9] (.seq (.region f41r2 [1, 7, 8, 9, 10]) (.seq (.cond (.t 10) .skip (.exit 0)) (.seq (.block 1 (.seq (.region f41r3 [1, 6, 7, 8, 9]) (.seq (.seq (.region f41r4 [1, 6, 7, 8, 9, 27]) (.cond (.t 27) (.seq (.region f41r5 [4]) .ret) .skip)) (.region f41r6 [1, 7, 8, 9])))) (.region f41r7 [1, 7, 8, 9]))))))) (.seq (.region f41r8 [4]) .ret))), true⟩

/-! quire/metric.props -/
def f42r0 : List ROper := [
  ⟨some 1, .box 17 (.t 0), none⟩,
  ⟨some 2, .mv (.c (.bool false)), none⟩]
def f42r1 : List ROper := [
  ⟨some 5, .faddr 0 (.t 1), none⟩,
  ⟨some 6, .load 1 false (.t 5), none⟩,
  ⟨some 7, .build [(.int .i64 (.ofNat 0)), (.int .i64 (.ofNat 0)), (.int .i64 (.ofNat 0))] [(0, 1, (.t 6)), (1, 1, (.c (.int .i64 (.ofNat 1)))), (2, 1, (.c (.int .i64 (.ofNat 64))))], none⟩,
  ⟨some 8, .faddr 1 (.t 1), none⟩,
  ⟨some 9, .load 1 false (.t 8), none⟩,
  ⟨some 10, .build [(.int .i64 (.ofNat 0)), (.int .i64 (.ofNat 0)), (.int .i64 (.ofNat 0))] [(0, 1, (.t 9)), (1, 1, (.c (.int .i64 (.ofNat 1)))), (2, 1, (.c (.int .i64 (.ofNat 255))))], none⟩,
  ⟨some 11, .faddr 2 (.t 1), none⟩,
  ⟨some 12, .load 1 false (.t 11), none⟩,
  ⟨some 13, .build [(.int .i64 (.ofNat 0)), (.int .i64 (.ofNat 0)), (.int .i64 (.ofNat 0))] [(0, 1, (.t 12)), (1, 1, (.c (.int .i64 (.ofNat 0)))), (2, 1, (.c (.int .i64 (.ofNat 3))))], none⟩,
  ⟨some 14, .faddr 3 (.t 1), none⟩,
  ⟨some 15, .load 1 false (.t 14), none⟩,
  ⟨some 16, .build [(.int .i64 (.ofNat 0)), (.int .i64 (.ofNat 0)), (.int .i64 (.ofNat 0))] [(0, 1, (.t 15)), (1, 1, (.c (.int .i64 (.ofNat 0)))), (2, 1, (.c (.int .i64 (.ofNat 255))))], none⟩,
  ⟨some 17, .faddr 4 (.t 1), none⟩,
  ⟨some 18, .load 1 false (.t 17), none⟩,
  ⟨some 19, .build [(.int .i64 (.ofNat 0)), (.int .i64 (.ofNat 0)), (.int .i64 (.ofNat 0))] [(0, 1, (.t 18)), (1, 1, (.c (.int .i64 (.ofNat 0)))), (2, 1, (.c (.int .i64 (.ofNat 255))))], none⟩,
  ⟨some 20, .faddr 5 (.t 1), none⟩,
  ⟨some 21, .load 1 false (.t 20), none⟩,
  ⟨some 22, .build [(.int .i64 (.ofNat 0)), (.int .i64 (.ofNat 0)), (.int .i64 (.ofNat 0))] [(0, 1, (.t 21)), (1, 1, (.c (.int .i64 (.ofNat 0)))), (2, 1, (.c (.int .i64 (.ofNat 255))))], none⟩,
  ⟨some 23, .faddr 6 (.t 1), none⟩,
  ⟨some 24, .load 1 false (.t 23), none⟩,
  ⟨some 25, .build [(.int .i64 (.ofNat 0)), (.int .i64 (.ofNat 0)), (.int .i64 (.ofNat 0))] [(0, 1, (.t 24)), (1, 1, (.c (.int .i64 (.ofNat 0)))), (2, 1, (.c (.int .i64 (.ofNat 255))))], none⟩,
  ⟨some 26, .faddr 7 (.t 1), none⟩,
  ⟨some 27, .load 1 false (.t 26), none⟩,
  ⟨some 28, .build [(.int .i64 (.ofNat 0)), (.int .i64 (.ofNat 0)), (.int .i64 (.ofNat 0))] [(0, 1, (.t 27)), (1, 1, (.c (.int .i64 (.ofNat 0)))), (2, 1, (.c (.int .i64 (.ofNat 255))))], none⟩,
  ⟨some 29, .faddr 8 (.t 1), none⟩,
  ⟨some 30, .load 1 false (.t 29), none⟩,
  ⟨some 31, .build [(.int .i64 (.ofNat 0)), (.int .i64 (.ofNat 0)), (.int .i64 (.ofNat 0))] [(0, 1, (.t 30)), (1, 1, (.c (.int .i64 (.ofNat 0)))), (2, 1, (.c (.int .i64 (.ofNat 1))))], none⟩,
  ⟨some 32, .faddr 9 (.t 1), none⟩,
  ⟨some 33, .load 1 false (.t 32), none⟩,
  ⟨some 34, .build [(.int .i64 (.ofNat 0)), (.int .i64 (.ofNat 0)), (.int .i64 (.ofNat 0))] [(0, 1, (.t 33)), (1, 1, (.c (.int .i64 (.ofNat 0)))), (2, 1, (.c (.int .i64 (.ofNat 1))))], none⟩,
  ⟨some 35, .faddr 10 (.t 1), none⟩,
  ⟨some 36, .load 1 false (.t 35), none⟩,
  ⟨some 37, .build [(.int .i64 (.ofNat 0)), (.int .i64 (.ofNat 0)), (.int .i64 (.ofNat 0))] [(0, 1, (.t 36)), (1, 1, (.c (.int .i64 (.ofNat 1)))), (2, 1, (.c (.int .i64 (.ofNat 4))))], none⟩,
  ⟨some 38, .faddr 11 (.t 1), none⟩,
  ⟨some 39, .load 1 false (.t 38), none⟩,
  ⟨some 40, .build [(.int .i64 (.ofNat 0)), (.int .i64 (.ofNat 0)), (.int .i64 (.ofNat 0))] [(0, 1, (.t 39)), (1, 1, (.c (.int .i64 (.ofNat 1)))), (2, 1, (.c (.int .i64 (.ofNat 4))))], none⟩,
  ⟨some 41, .faddr 12 (.t 1), none⟩,
  ⟨some 42, .load 1 false (.t 41), none⟩,
  ⟨some 43, .build [(.int .i64 (.ofNat 0)), (.int .i64 (.ofNat 0)), (.int .i64 (.ofNat 0))] [(0, 1, (.t 42)), (1, 1, (.c (.int .i64 (.ofNat 0)))), (2, 1, (.c (.int .i64 (.ofNat 1))))], none⟩,
  ⟨some 44, .faddr 13 (.t 1), none⟩,
  ⟨some 45, .load 1 false (.t 44), none⟩,
  ⟨some 46, .build [(.int .i64 (.ofNat 0)), (.int .i64 (.ofNat 0)), (.int .i64 (.ofNat 0))] [(0, 1, (.t 45)), (1, 1, (.c (.int .i64 (.ofNat 0)))), (2, 1, (.c (.int .i64 (.ofNat 1))))], none⟩,
  ⟨some 47, .faddr 14 (.t 1), none⟩,
  ⟨some 48, .load 1 false (.t 47), none⟩,
  ⟨some 49, .build [(.int .i64 (.ofNat 0)), (.int .i64 (.ofNat 0)), (.int .i64 (.ofNat 0))] [(0, 1, (.t 48)), (1, 1, (.c (.int .i64 (.ofNat 0)))), (2, 1, (.c (.int .i64 (.ofNat 4))))], none⟩,
  ⟨some 50, .faddr 15 (.t 1), none⟩,
  ⟨some 51, .load 1 false (.t 50), none⟩,
  ⟨some 52, .build [(.int .i64 (.ofNat 0)), (.int .i64 (.ofNat 0)), (.int .i64 (.ofNat 0))] [(0, 1, (.t 51)), (1, 1, (.c (.int .i64 (.ofNat 0)))), (2, 1, (.c (.int .i64 (.ofNat 8))))], none⟩,
  ⟨some 53, .faddr 16 (.t 1), none⟩,
  ⟨some 54, .load 1 false (.t 53), none⟩,
  ⟨some 55, .build [(.int .i64 (.ofNat 0)), (.int .i64 (.ofNat 0)), (.int .i64 (.ofNat 0))] [(0, 1, (.t 54)), (1, 1, (.c (.int .i64 (.ofNat 0)))), (2, 1, (.c (.int .i64 (.ofNat 3))))], none⟩,
  ⟨some 56, .build [(.int .i64 (.ofNat 0)), (.int .i64 (.ofNat 0)), (.int .i64 (.ofNat 0)), (.int .i64 (.ofNat 0)), (.int .i64 (.ofNat 0)), (.int .i64 (.ofNat 0)), (.int .i64 (.ofNat 0)), (.int .i64 (.ofNat 0)), (.int .i64 (.ofNat 0)), (.int .i64 (.ofNat 0)), (.int .i64 (.ofNat 0)), (.int .i64 (.ofNat 0)), (.int .i64 (.ofNat 0)), (.int .i64 (.ofNat 0)), (.int .i64 (.ofNat 0)), (.int .i64 (.ofNat 0)), (.int .i64 (.ofNat 0)), (.int .i64 (.ofNat 0)), (.int .i64 (.ofNat 0)), (.int .i64 (.ofNat 0)), (.int .i64 (.ofNat 0)), (.int .i64 (.ofNat 0)), (.int .i64 (.ofNat 0)), (.int .i64 (.ofNat 0)), (.int .i64 (.ofNat 0)), (.int .i64 (.ofNat 0)), (.int .i64 (.ofNat 0)), (.int .i64 (.ofNat 0)), (.int .i64 (.ofNat 0)), (.int .i64 (.ofNat 0)), (.int .i64 (.ofNat 0)), (.int .i64 (.ofNat 0)), (.int .i64 (.ofNat 0)), (.int .i64 (.ofNat 0)), (.int .i64 (.ofNat 0)), (.int .i64 (.ofNat 0)), (.int .i64 (.ofNat 0)), (.int .i64 (.ofNat 0)), (.int .i64 (.ofNat 0)), (.int .i64 (.ofNat 0)), (.int .i64 (.ofNat 0)), (.int .i64 (.ofNat 0)), (.int .i64 (.ofNat 0)), (.int .i64 (.ofNat 0)), (.int .i64 (.ofNat 0)), (.int .i64 (.ofNat 0)), (.int .i64 (.ofNat 0)), (.int .i64 (.ofNat 0)), (.int .i64 (.ofNat 0)), (.int .i64 (.ofNat 0)), (.int .i64 (.ofNat 0))] [(0, 3, (.t 7)), (3, 3, (.t 10)), (6, 3, (.t 13)), (9, 3, (.t 16)), (12, 3, (.t 19)), (15, 3, (.t 22)), (18, 3, (.t 25)), (21, 3, (.t 28)), (24, 3, (.t 31)), (27, 3, (.t 34)), (30, 3, (.t 37)), (33, 3, (.t 40)), (36, 3, (.t 43)), (39, 3, (.t 46)), (42, 3, (.t 49)), (45, 3, (.t 52)), (48, 3, (.t 55))], none⟩,
  ⟨some 57, .mv (.c (.int .i64 (.ofNat 0))), none⟩]
def f42r2 : List ROper := [
  ⟨some 58, .bin .lss (.t 57) (.c (.int .i64 (.ofNat 17))), none⟩]
def f42r3 : List ROper := [
  ⟨some 59, .indexA 3 true 17 (.t 56) (.t 57), none⟩,
  ⟨some 4, .alloc [(.int .i64 (.ofNat 0)), (.int .i64 (.ofNat 0)), (.int .i64 (.ofNat 0))], none⟩,
  ⟨none, .store 3 (.t 4) (.t 59), none⟩]
def f42r4 : List ROper := [
  ⟨some 60, .faddr 0 (.t 4), none⟩,
  ⟨some 61, .load 1 false (.t 60), none⟩,
  ⟨some 62, .faddr 1 (.t 4), none⟩,
  ⟨some 63, .load 1 false (.t 62), none⟩,
  ⟨some 64, .bin .lss (.t 61) (.t 63), none⟩,
  ⟨some 65, .mv (.t 64), none⟩,
  ⟨some 66, .faddr 0 (.t 4), some (65, false)⟩,
  ⟨some 67, .load 1 false (.t 66), some (65, false)⟩,
  ⟨some 68, .faddr 2 (.t 4), some (65, false)⟩,
  ⟨some 69, .load 1 false (.t 68), some (65, false)⟩,
  ⟨some 70, .bin .gtr (.t 67) (.t 69), some (65, false)⟩,
  ⟨some 71, .pick (.t 65) (.c (.bool true)) (.t 70), none⟩]
def f42r5 : List ROper := [
  ⟨some 2, .mv (.c (.bool false)), none⟩]
def f42r6 : List ROper := [
  ⟨some 72, .bin .add (.t 57) (.c (.int .i64 (.ofNat 1))), none⟩,
  ⟨some 57, .mv (.t 72), none⟩]
def f42r7 : List ROper := [
  ⟨some 2, .mv (.c (.bool true)), none⟩]
def f42 : RFunc := ⟨[.t 2], (.seq (.region f42r0 [1]) (.seq (.seq (.region f42r1 [56, 57]) (.block 0 (.loop [56, 57] (.seq (.region f42r2 [56, 57, 58]) (.seq (.cond (.t 58) .skip (.exit 0)) (.seq (.block 1 (.seq (.region f42r3 [4, 56, 57]) (.seq (.region f42r4 [56, 57, 71]) (.cond (.t 71) (.seq (.region f42r5 [2]) .ret) .skip)))) (.region f42r6 [56, 57]))))))) (.seq (.region f42r7 [2]) .ret))), true⟩

/-! quire/metric.shown -/
def f43r0 : List ROper := [
  ⟨some 4, .mv (.c (.bool false)), none⟩]
def f43r1 : List ROper := [
  ⟨some 7, .mv (.t 0), none⟩,
  ⟨some 8, .s2b (.t 7), none⟩,
  ⟨some 9, .len .slice (.t 8), none⟩,
  ⟨some 10, .mv (.c (.int .i64 (.ofNat 0))), none⟩]
def f43r2 : List ROper := [
  ⟨some 11, .bin .lss (.t 10) (.t 9), none⟩]
def f43r3 : List ROper := [
  ⟨some 12, .iaddr 1 (.t 8) (.t 10), none⟩,
  ⟨some 13, .load 1 false (.t 12), none⟩,
  ⟨some 6, .mv (.t 13), none⟩]
def f43r4 : List ROper := [
  ⟨some 14, .mv (.t 6), none⟩,
  ⟨some 15, .bin .leq (.t 14) (.c (.int .u8 (.ofNat 32))), none⟩,
  ⟨some 16, .mv (.t 15), none⟩,
  ⟨some 17, .mv (.t 6), some (16, false)⟩,
  ⟨some 18, .bin .gtr (.t 17) (.c (.int .u8 (.ofNat 126))), some (16, false)⟩,
  ⟨some 19, .pick (.t 16) (.c (.bool true)) (.t 18), none⟩]
def f43r5 : List ROper := [
  ⟨some 4, .mv (.c (.bool false)), none⟩]
def f43r6 : List ROper := [
  ⟨some 20, .bin .add (.t 10) (.c (.int .i64 (.ofNat 1))), none⟩,
  ⟨some 10, .mv (.t 20), none⟩]
def f43r7 : List ROper := [
  ⟨some 21, .mv (.t 0), none⟩,
  ⟨some 22, .len .str (.t 21), none⟩,
  ⟨some 23, .mv (.t 1), none⟩,
  ⟨some 24, .bin .leq (.t 22) (.t 23), none⟩,
  ⟨some 4, .mv (.t 24), none⟩]
def f43 : RFunc := ⟨[.t 4], (.seq (.region f43r0 [0, 1]) (.seq (.seq (.region f43r1 [0, 1, 8, 9, 10]) (.block 0 (.loop [0, 1, 8, 9, 10] (.seq (.region f43r2 [0, 1, 8, 9, 10, 11]) (.seq (.cond (.t 11) .skip (.exit 0)) (.seq (.block 1 (.seq (.region f43r3 [0, 1, 6, 8, 9, 10]) (.seq (.region f43r4 [0, 1, 8, 9, 10, 19]) (.cond (.t 19) (.seq (.region f43r5 [4]) .ret) .skip)))) (.region f43r6 [0, 1, 8, 9, 10]))))))) (.seq (.region f43r7 [4]) .ret))), true⟩

/-! strings.Count -/
def f44r0 : List ROper := [
  ⟨some 4, .mv (.c (.int .i64 (.ofNat 0))), none⟩]
def f44r1 : List ROper := [
  ⟨some 7, .mv (.t 1), none⟩,
  ⟨some 8, .len .str (.t 7), none⟩,
  ⟨some 9, .bin .eql (.t 8) (.c (.int .i64 (.ofNat 0))), none⟩]
def f44r2 : List ROper := [
  ⟨some 10, .mv (.t 0), none⟩,
  ⟨some 11, .call 63 [(.t 10)], none⟩,
  ⟨some 12, .bin .add (.t 11) (.c (.int .i64 (.ofNat 1))), none⟩,
  ⟨some 4, .mv (.t 12), none⟩]
def f44r3 : List ROper := [
  ⟨some 13, .mv (.t 1), none⟩,
  ⟨some 14, .len .str (.t 13), none⟩,
  ⟨some 15, .bin .eql (.t 14) (.c (.int .i64 (.ofNat 1))), none⟩]
def f44r4 : List ROper := [
  ⟨some 16, .mv (.t 0), none⟩,
  ⟨some 17, .mv (.t 1), none⟩,
  ⟨some 18, .index (.t 17) (.c (.int .i64 (.ofNat 0))), none⟩,
  ⟨some 19, .call 64 [(.t 16), (.t 18)], none⟩,
  ⟨some 4, .mv (.t 19), none⟩]
def f44r5 : List ROper := [
  ⟨some 5, .mv (.c (.int .i64 (.ofNat 0))), none⟩]
def f44r6 : List ROper := [
  ⟨some 20, .mv (.t 0), none⟩,
  ⟨some 21, .mv (.t 1), none⟩,
  ⟨some 22, .call 65 [(.t 20), (.t 21)], none⟩,
  ⟨some 6, .mv (.t 22), none⟩]
def f44r7 : List ROper := [
  ⟨some 23, .mv (.t 6), none⟩,
  ⟨some 24, .bin .eql (.t 23) (.c (.int .i64 (.negSucc 0))), none⟩]
def f44r8 : List ROper := [
  ⟨some 25, .mv (.t 5), none⟩,
  ⟨some 4, .mv (.t 25), none⟩]
def f44r9 : List ROper := [
  ⟨some 26, .mv (.t 5), none⟩,
  ⟨some 27, .bin .add (.t 26) (.c (.int .i64 (.ofNat 1))), none⟩,
  ⟨some 5, .mv (.t 27), none⟩]
def f44r10 : List ROper := [
  ⟨some 28, .mv (.t 0), none⟩,
  ⟨some 29, .mv (.t 6), none⟩,
  ⟨some 30, .mv (.t 1), none⟩,
  ⟨some 31, .len .str (.t 30), none⟩,
  ⟨some 32, .bin .add (.t 29) (.t 31), none⟩,
  ⟨some 33, .slice true 1 (.t 28) (some (.t 32)) none none, none⟩,
  ⟨some 0, .mv (.t 33), none⟩]
def f44 : RFunc := ⟨[.t 4], (.seq (.region f44r0 [0, 1]) (.seq (.seq (.region f44r1 [0, 1, 9]) (.cond (.t 9) (.seq (.region f44r2 [4]) .ret) .skip)) (.seq (.seq (.region f44r3 [0, 1, 15]) (.cond (.t 15) (.seq (.region f44r4 [4]) .ret) .skip)) (.seq (.region f44r5 [0, 1, 5]) (.block 0 (.loop [0, 1, 5] (.block 1 (.seq (.region f44r6 [0, 1, 5, 6]) (.seq (.seq (.region f44r7 [0, 1, 5, 6, 24]) (.cond (.t 24) (.seq (.region f44r8 [4]) .ret) .skip)) (.seq (.region f44r9 [0, 1, 5, 6]) (.region f44r10 [0, 1, 5]))))))))))), true⟩

/-! quire/metric.sized -/
def f51r0 : List ROper := [
  ⟨some 2, .mv (.c (.bool false)), none⟩]
def f51r1 : List ROper := [
  ⟨some 3, .mv (.t 0), none⟩,
  ⟨some 4, .bin .geq (.t 3) (.c (.int .i64 (.ofNat 1))), none⟩,
  ⟨some 5, .mv (.t 4), none⟩,
  ⟨some 6, .mv (.t 0), some (5, true)⟩,
  ⟨some 7, .bin .leq (.t 6) (.c (.int .i64 (.ofNat 64))), some (5, true)⟩,
  ⟨some 8, .pick (.t 5) (.t 7) (.c (.bool false)), none⟩,
  ⟨some 2, .mv (.t 8), none⟩]
def f51 : RFunc := ⟨[.t 2], (.seq (.region f51r0 [0]) (.seq (.region f51r1 [2]) .ret)), true⟩

/-! quire/cluster.wrong -/
def f54r0 : List ROper := [
  ⟨some 2, .mv (.c (.int .i64 (.ofNat 0))), none⟩]
def f54r1 : List ROper := [
  ⟨some 5, .mv (.t 0), none⟩,
  ⟨some 6, .len .str (.t 5), none⟩,
  ⟨some 7, .bin .gtr (.t 6) (.c (.int .i64 (.ofNat 4096))), none⟩]
def f54r2 : List ROper := [
  ⟨some 2, .mv (.c (.int .i64 (.ofNat 3))), none⟩]
def f54r3 : List ROper := [
  ⟨some 8, .mv (.t 0), none⟩,
  ⟨some 9, .s2b (.t 8), none⟩,
  ⟨some 10, .len .slice (.t 9), none⟩,
  ⟨some 11, .mv (.c (.int .i64 (.ofNat 0))), none⟩]
def f54r4 : List ROper := [
  ⟨some 12, .bin .lss (.t 11) (.t 10), none⟩]
def f54r5 : List ROper := [
  ⟨some 13, .iaddr 1 (.t 9) (.t 11), none⟩,
  ⟨some 14, .load 1 false (.t 13), none⟩,
  ⟨some 4, .mv (.t 14), none⟩]
def f54r6 : List ROper := [
  ⟨some 15, .mv (.t 4), none⟩,
  ⟨some 16, .call 68 [(.t 15)], none⟩,
  ⟨some 17, .bin .eql (.t 16) (.c (.int .i64 (.ofNat 0))), none⟩]
def f54r7 : List ROper := [
  ⟨some 2, .mv (.c (.int .i64 (.ofNat 4))), none⟩]
def f54r8 : List ROper := [
  ⟨some 18, .bin .add (.t 11) (.c (.int .i64 (.ofNat 1))), none⟩,
  ⟨some 11, .mv (.t 18), none⟩]
def f54r9 : List ROper := [
  ⟨some 2, .mv (.c (.int .i64 (.ofNat 0))), none⟩]
def f54 : RFunc := ⟨[.t 2], (.seq (.region f54r0 [0]) (.seq (.seq (.region f54r1 [0, 7]) (.cond (.t 7) (.seq (.region f54r2 [2]) .ret) .skip)) (.seq (.seq (.region f54r3 [9, 10, 11]) (.block 0 (.loop [9, 10, 11] (.seq (.region f54r4 [9, 10, 11, 12]) (.seq (.cond (.t 12) .skip (.exit 0)) (.seq (.block 1 (.seq (.region f54r5 [4, 9, 10, 11]) (.seq (.region f54r6 [9, 10, 11, 17]) (.cond (.t 17) (.seq (.region f54r7 [2]) .ret) .skip)))) (.region f54r8 [9, 10, 11]))))))) (.seq (.region f54r9 [2]) .ret)))), true⟩

/-! quire/cluster.each -/
def f55r0 : List ROper := [
  ⟨some 1, .box 1 (.t 0), none⟩,
  ⟨some 2, .mv (.c .nilfn), none⟩]
def f55r1 : List ROper := [
  ⟨some 3, .mkfn 69 [] [(.t 1)], none⟩,
  ⟨some 2, .mv (.t 3), none⟩]
def f55 : RFunc := ⟨[.t 2], (.seq (.region f55r0 [1]) (.seq (.region f55r1 [2]) .ret)), false⟩

/-! quire/metric.looks$1 -/
def f56r0 : List ROper := [
  ⟨some 4, .alloc [(.int .i64 (.ofNat 0)), (.int .i64 (.ofNat 0)), (.int .i64 (.ofNat 0))], none⟩]
def f56r1 : List ROper := [
  ⟨some 5, .load 1 false (.t 1), none⟩,
  ⟨some 6, .len .slice (.t 5), none⟩,
  ⟨some 7, .bin .gtr (.t 6) (.c (.int .i64 (.ofNat 1))), none⟩,
  ⟨some 8, .mv (.t 7), none⟩,
  ⟨some 9, .mv (.t 0), some (8, true)⟩,
  ⟨some 10, .load 1 false (.t 2), some (8, true)⟩,
  ⟨some 11, .bin .geq (.t 9) (.t 10), some (8, true)⟩,
  ⟨some 12, .pick (.t 8) (.t 11) (.c (.bool false)), none⟩]
def f56r2 : List ROper := [
  ⟨some 13, .load 1 false (.t 1), none⟩,
  ⟨some 14, .slice false 4 (.t 13) (some (.c (.int .i64 (.ofNat 1)))) none none, none⟩,
  ⟨none, .store 1 (.t 1) (.t 14), none⟩]
def f56r3 : List ROper := [
  ⟨some 15, .load 1 false (.t 2), none⟩,
  ⟨some 16, .load 1 false (.t 1), none⟩,
  ⟨some 17, .iaddr 4 (.t 16) (.c (.int .i64 (.ofNat 0))), none⟩,
  ⟨some 18, .faddr 0 (.t 17), none⟩,
  ⟨some 19, .load 1 false (.t 18), none⟩,
  ⟨some 20, .bin .add (.t 15) (.t 19), none⟩,
  ⟨none, .store 1 (.t 2) (.t 20), none⟩]
def f56r4 : List ROper := [
  ⟨some 21, .load 1 false (.t 1), none⟩,
  ⟨some 22, .iaddr 4 (.t 21) (.c (.int .i64 (.ofNat 0))), none⟩,
  ⟨some 23, .faddr 1 (.t 22), none⟩,
  ⟨some 24, .load 3 true (.t 23), none⟩,
  ⟨none, .store 3 (.t 4) (.t 24), none⟩]
def f56 : RFunc := ⟨[.cell 4 3 true], (.seq (.region f56r0 [0, 1, 2, 4]) (.seq (.block 0 (.loop [0, 1, 2, 4] (.seq (.seq (.region f56r1 [0, 1, 2, 4, 12]) (.cond (.t 12) .skip (.exit 0))) (.block 1 (.seq (.region f56r2 [0, 1, 2, 4]) (.dregion f56r3 [] [0, 1, 2, 4])))))) (.seq (.region f56r4 [4]) .ret))), false⟩

/-! quire/metric.paired -/
def f57r0 : List ROper := [
  ⟨some 6, .mv (.c (.bool false)), none⟩]
def f57r1 : List ROper := [
  ⟨some 7, .mv (.c (.int .i64 (.ofNat 0))), none⟩]
def f57r2 : List ROper := [
  ⟨some 8, .mv (.t 7), none⟩,
  ⟨some 9, .bin .add (.t 8) (.c (.int .i64 (.ofNat 1))), none⟩,
  ⟨some 10, .mv (.t 0), none⟩,
  ⟨some 11, .len .str (.t 10), none⟩,
  ⟨some 12, .bin .lss (.t 9) (.t 11), none⟩]
def f57r3 : List ROper := [
  ⟨some 15, .mv (.t 0), none⟩,
  ⟨some 16, .mv (.t 7), none⟩,
  ⟨some 17, .index (.t 15) (.t 16), none⟩,
  ⟨some 18, .mv (.t 1), none⟩,
  ⟨some 19, .bin .eql (.t 17) (.t 18), none⟩,
  ⟨some 20, .mv (.t 19), none⟩,
  ⟨some 21, .mv (.t 0), some (20, true)⟩,
  ⟨some 22, .mv (.t 7), some (20, true)⟩,
  ⟨some 23, .bin .add (.t 22) (.c (.int .i64 (.ofNat 1))), some (20, true)⟩,
  ⟨some 24, .index (.t 21) (.t 23), some (20, true)⟩,
  ⟨some 25, .mv (.t 2), some (20, true)⟩,
  ⟨some 26, .bin .eql (.t 24) (.t 25), some (20, true)⟩,
  ⟨some 27, .pick (.t 20) (.t 26) (.c (.bool false)), none⟩]
def f57r4 : List ROper := [
  ⟨some 6, .mv (.c (.bool true)), none⟩]
def f57r5 : List ROper := [
  ⟨some 13, .mv (.t 7), none⟩,
  ⟨some 14, .bin .add (.t 13) (.c (.int .i64 (.ofNat 3))), none⟩,
  ⟨some 7, .mv (.t 14), none⟩]
def f57r6 : List ROper := [
  ⟨some 6, .mv (.c (.bool false)), none⟩]
def f57 : RFunc := ⟨[.t 6], (.seq (.region f57r0 [0, 1, 2]) (.seq (.seq (.region f57r1 [0, 1, 2, 7]) (.block 0 (.loop [0, 1, 2, 7] (.seq (.seq (.region f57r2 [0, 1, 2, 7, 12]) (.cond (.t 12) .skip (.exit 0))) (.seq (.block 1 (.seq (.region f57r3 [0, 1, 2, 7, 27]) (.cond (.t 27) (.seq (.region f57r4 [6]) .ret) .skip))) (.region f57r5 [0, 1, 2, 7])))))) (.seq (.region f57r6 [6]) .ret))), true⟩

/-! internal/stringslite.IndexByte -/
def f61r0 : List ROper := [
  ⟨some 4, .mv (.c (.int .i64 (.ofNat 0))), none⟩]
def f61r1 : List ROper := [
  ⟨some 5, .mv (.t 0), none⟩,
  ⟨some 6, .mv (.t 1), none⟩,
  ⟨some 7, .call 72 [(.t 5), (.t 6)], none⟩,
  ⟨some 4, .mv (.t 7), none⟩]
def f61 : RFunc := ⟨[.t 4], (.seq (.region f61r0 [0, 1]) (.seq (.region f61r1 [4]) .ret)), true⟩

/-! quire/metric.look -/
def f62r0 : List ROper := [
  ⟨some 1, .box 3 (.t 0), none⟩,
  ⟨some 2, .mv (.c (.bool false)), none⟩]
def f62r1 : List ROper := [
  ⟨some 3, .faddr 0 (.t 1), none⟩,
  ⟨some 4, .load 1 false (.t 3), none⟩,
  ⟨some 5, .bin .geq (.t 4) (.c (.int .i64 (.ofNat 0))), none⟩,
  ⟨some 6, .mv (.t 5), none⟩,
  ⟨some 7, .faddr 0 (.t 1), some (6, true)⟩,
  ⟨some 8, .load 1 false (.t 7), some (6, true)⟩,
  ⟨some 9, .bin .leq (.t 8) (.c (.int .i64 (.ofNat 64))), some (6, true)⟩,
  ⟨some 10, .pick (.t 6) (.t 9) (.c (.bool false)), none⟩,
  ⟨some 11, .mv (.t 10), none⟩,
  ⟨some 12, .faddr 1 (.t 1), some (11, true)⟩,
  ⟨some 13, .load 1 false (.t 12), some (11, true)⟩,
  ⟨some 14, .bin .geq (.t 13) (.c (.int .i64 (.ofNat 0))), some (11, true)⟩,
  ⟨some 15, .pick (.t 11) (.t 14) (.c (.bool false)), none⟩,
  ⟨some 16, .mv (.t 15), none⟩,
  ⟨some 17, .faddr 1 (.t 1), some (16, true)⟩,
  ⟨some 18, .load 1 false (.t 17), some (16, true)⟩,
  ⟨some 19, .bin .leq (.t 18) (.c (.int .i64 (.ofNat 15))), some (16, true)⟩,
  ⟨some 20, .pick (.t 16) (.t 19) (.c (.bool false)), none⟩,
  ⟨some 21, .mv (.t 20), none⟩,
  ⟨some 22, .faddr 2 (.t 1), some (21, true)⟩,
  ⟨some 23, .load 1 false (.t 22), some (21, true)⟩,
  ⟨some 24, .bin .eql (.t 23) (.c (.int .i64 (.ofNat 0))), some (21, true)⟩,
  ⟨some 25, .mv (.t 24), some (21, true)⟩,
  ⟨some 26, .faddr 2 (.t 1), some (25, false)⟩,
  ⟨some 27, .load 1 false (.t 26), some (25, false)⟩,
  ⟨some 28, .bin .eql (.t 27) (.c (.int .i64 (.ofNat 1))), some (25, false)⟩,
  ⟨some 29, .pick (.t 25) (.c (.bool true)) (.t 28), some (21, true)⟩,
  ⟨some 30, .pick (.t 21) (.t 29) (.c (.bool false)), none⟩,
  ⟨some 2, .mv (.t 30), none⟩]
def f62 : RFunc := ⟨[.t 2], (.seq (.region f62r0 [1]) (.seq (.region f62r1 [2]) .ret)), true⟩

/-! strings.Index -/
def f65r0 : List ROper := [
  ⟨some 4, .mv (.c (.int .i64 (.ofNat 0))), none⟩]
def f65r1 : List ROper := [
  ⟨some 5, .mv (.t 0), none⟩,
  ⟨some 6, .mv (.t 1), none⟩,
  ⟨some 7, .call 73 [(.t 5), (.t 6)], none⟩,
  ⟨some 4, .mv (.t 7), none⟩]
def f65 : RFunc := ⟨[.t 4], (.seq (.region f65r0 [0, 1]) (.seq (.region f65r1 [4]) .ret)), true⟩

/-! quire/cluster.kind -/
def f68r0 : List ROper := [
  ⟨some 2, .mv (.c (.int .i64 (.ofNat 0))), none⟩]
def f68r1 : List ROper := [
  ⟨some 4, .mv (.t 0), none⟩,
  ⟨some 5, .call 74 [(.t 4)], none⟩,
  ⟨some 3, .mv (.t 5), none⟩]
def f68r2 : List ROper := [
  ⟨some 2, .mv (.c (.int .i64 (.ofNat 1))), none⟩]
def f68r3 : List ROper := [
  ⟨some 7, .mv (.t 0), none⟩,
  ⟨some 8, .bin .eql (.t 7) (.c (.int .u8 (.ofNat 32))), none⟩,
  ⟨some 6, .mv (.t 8), none⟩]
def f68r4 : List ROper := [
  ⟨some 2, .mv (.c (.int .i64 (.ofNat 3))), none⟩]
def f68r5 : List ROper := [
  ⟨some 10, .mv (.t 0), none⟩,
  ⟨some 11, .bin .eql (.t 10) (.c (.int .u8 (.ofNat 9))), none⟩,
  ⟨some 9, .mv (.t 11), none⟩]
def f68r6 : List ROper := [
  ⟨some 2, .mv (.c (.int .i64 (.ofNat 4))), none⟩]
def f68r7 : List ROper := [
  ⟨some 13, .mv (.t 0), none⟩,
  ⟨some 14, .bin .eql (.t 13) (.c (.int .u8 (.ofNat 31))), none⟩,
  ⟨some 12, .mv (.t 14), none⟩]
def f68r8 : List ROper := [
  ⟨some 2, .mv (.c (.int .i64 (.ofNat 5))), none⟩]
def f68r9 : List ROper := [
  ⟨some 16, .mv (.t 0), none⟩,
  ⟨some 17, .bin .eql (.t 16) (.c (.int .u8 (.ofNat 1))), none⟩,
  ⟨some 15, .mv (.t 17), none⟩]
def f68r10 : List ROper := [
  ⟨some 2, .mv (.c (.int .i64 (.ofNat 6))), none⟩]
def f68r11 : List ROper := [
  ⟨some 19, .mv (.t 0), none⟩,
  ⟨some 20, .bin .eql (.t 19) (.c (.int .u8 (.ofNat 2))), none⟩,
  ⟨some 18, .mv (.t 20), none⟩]
def f68r12 : List ROper := [
  ⟨some 2, .mv (.c (.int .i64 (.ofNat 7))), none⟩]
def f68r13 : List ROper := [
  ⟨some 22, .mv (.t 0), none⟩,
  ⟨some 23, .bin .eql (.t 22) (.c (.int .u8 (.ofNat 3))), none⟩,
  ⟨some 21, .mv (.t 23), none⟩]
def f68r14 : List ROper := [
  ⟨some 2, .mv (.c (.int .i64 (.ofNat 8))), none⟩]
def f68r15 : List ROper := [
  ⟨some 25, .mv (.t 0), none⟩,
  ⟨some 26, .bin .gtr (.t 25) (.c (.int .u8 (.ofNat 32))), none⟩,
  ⟨some 27, .mv (.t 26), none⟩,
  ⟨some 28, .mv (.t 0), some (27, true)⟩,
  ⟨some 29, .bin .leq (.t 28) (.c (.int .u8 (.ofNat 126))), some (27, true)⟩,
  ⟨some 30, .pick (.t 27) (.t 29) (.c (.bool false)), none⟩,
  ⟨some 24, .mv (.t 30), none⟩]
def f68r16 : List ROper := [
  ⟨some 2, .mv (.c (.int .i64 (.ofNat 2))), none⟩]
def f68r17 : List ROper := [
  ⟨some 2, .mv (.c (.int .i64 (.ofNat 0))), none⟩]
def f68 : RFunc := ⟨[.t 2], (.seq (.region f68r0 [0]) (.seq (.block 0 (.seq (.region f68r1 [0, 3]) (.cond (.t 3) (.seq (.region f68r2 [2]) .ret) (.seq (.region f68r3 [0, 6]) (.cond (.t 6) (.seq (.region f68r4 [2]) .ret) (.seq (.region f68r5 [0, 9]) (.cond (.t 9) (.seq (.region f68r6 [2]) .ret) (.seq (.region f68r7 [0, 12]) (.cond (.t 12) (.seq (.region f68r8 [2]) .ret) (.seq (.region f68r9 [0, 15]) (.cond (.t 15) (.seq (.region f68r10 [2]) .ret) (.seq (.region f68r11 [0, 18]) (.cond (.t 18) (.seq (.region f68r12 [2]) .ret) (.seq (.region f68r13 [0, 21]) (.cond (.t 21) (.seq (.region f68r14 [2]) .ret) (.seq (.region f68r15 [24]) (.cond (.t 24) (.seq (.region f68r16 [2]) .ret) .skip))))))))))))))))) (.seq (.region f68r17 [2]) .ret))), true⟩

/-! quire/cluster.each$1 -/
def f69r0 : List ROper := [
  ⟨some 3, .mv (.c (.int .i64 (.ofNat 0))), none⟩]
def f69r1 : List ROper := [
  ⟨some 5, .mv (.t 3), none⟩,
  ⟨some 6, .load 1 false (.t 1), none⟩,
  ⟨some 7, .len .str (.t 6), none⟩,
  ⟨some 8, .bin .lss (.t 5) (.t 7), none⟩]
def f69r2 : List ROper := [
  ⟨some 9, .mv (.t 3), none⟩,
  ⟨some 10, .mv (.t 3), none⟩,
  ⟨some 11, .bin .add (.t 10) (.c (.int .i64 (.ofNat 1))), none⟩,
  ⟨some 12, .load 1 false (.t 1), none⟩,
  ⟨some 13, .mv (.t 3), none⟩,
  ⟨some 14, .index (.t 12) (.t 13), none⟩,
  ⟨some 15, .call 68 [(.t 14)], none⟩,
  ⟨some 16, .build [(.int .i64 (.ofNat 0)), (.int .i64 (.ofNat 0)), (.int .i64 (.ofNat 0))] [(0, 1, (.t 9)), (1, 1, (.t 11)), (2, 1, (.t 15))], none⟩,
  ⟨some 4, .alloc [(.int .i64 (.ofNat 0)), (.int .i64 (.ofNat 0)), (.int .i64 (.ofNat 0))], none⟩,
  ⟨none, .store 3 (.t 4) (.t 16), none⟩]
def f69r3 : List ROper := [
  ⟨some 17, .faddr 2 (.t 4), none⟩,
  ⟨some 18, .load 1 false (.t 17), none⟩,
  ⟨some 19, .bin .eql (.t 18) (.c (.int .i64 (.ofNat 1))), none⟩,
  ⟨some 20, .mv (.t 19), none⟩,
  ⟨some 21, .faddr 1 (.t 4), some (20, true)⟩,
  ⟨some 22, .load 1 false (.t 21), some (20, true)⟩,
  ⟨some 23, .load 1 false (.t 1), some (20, true)⟩,
  ⟨some 24, .len .str (.t 23), some (20, true)⟩,
  ⟨some 25, .bin .lss (.t 22) (.t 24), some (20, true)⟩,
  ⟨some 26, .pick (.t 20) (.t 25) (.c (.bool false)), none⟩,
  ⟨some 27, .mv (.t 26), none⟩,
  ⟨some 28, .faddr 1 (.t 4), some (27, true)⟩,
  ⟨some 29, .load 1 false (.t 28), some (27, true)⟩,
  ⟨some 30, .mv (.t 3), some (27, true)⟩,
  ⟨some 31, .bin .add (.t 30) (.c (.int .i64 (.ofNat 3))), some (27, true)⟩,
  ⟨some 32, .bin .lss (.t 29) (.t 31), some (27, true)⟩,
  ⟨some 33, .pick (.t 27) (.t 32) (.c (.bool false)), none⟩,
  ⟨some 34, .mv (.t 33), none⟩,
  ⟨some 35, .load 1 false (.t 1), some (34, true)⟩,
  ⟨some 36, .faddr 1 (.t 4), some (34, true)⟩,
  ⟨some 37, .load 1 false (.t 36), some (34, true)⟩,
  ⟨some 38, .index (.t 35) (.t 37), some (34, true)⟩,
  ⟨some 39, .call 70 [(.t 38)], some (34, true)⟩,
  ⟨some 40, .pick (.t 34) (.t 39) (.c (.bool false)), none⟩]
def f69r4 : List ROper := [
  ⟨some 41, .faddr 1 (.t 4), none⟩,
  ⟨some 42, .load 1 false (.t 41), none⟩,
  ⟨some 43, .bin .add (.t 42) (.c (.int .i64 (.ofNat 1))), none⟩,
  ⟨some 44, .faddr 1 (.t 4), none⟩,
  ⟨none, .store 1 (.t 44) (.t 43), none⟩]
def f69r5 : List ROper := [
  ⟨some 45, .mv (.t 0), none⟩,
  ⟨some 46, .load 3 true (.t 4), none⟩,
  ⟨some 47, .callv (.t 45) [(.t 46)], none⟩,
  ⟨some 48, .un .not (.t 47), none⟩]
def f69r6 : List ROper := [
  ⟨some 49, .faddr 1 (.t 4), none⟩,
  ⟨some 50, .load 1 false (.t 49), none⟩,
  ⟨some 3, .mv (.t 50), none⟩]
def f69 : RFunc := ⟨[], (.seq (.region f69r0 [0, 1, 3]) (.block 0 (.loop [0, 1, 3] (.seq (.seq (.region f69r1 [0, 1, 3, 8]) (.cond (.t 8) .skip (.exit 0))) (.block 1 (.seq (.region f69r2 [0, 1, 3, 4]) (.seq (.block 2 (.loop [0, 1, 3, 4] (.seq (.seq (.region f69r3 [0, 1, 3, 4, 40]) (.cond (.t 40) .skip (.exit 2))) (.block 3 (.region f69r4 [0, 1, 3, 4]))))) (.seq (.seq (.region f69r5 [0, 1, 4, 48]) (.cond (.t 48) .ret .skip)) (.region f69r6 [0, 1, 3]))))))))), false⟩

/-! quire/cluster.accent -/
def f70r0 : List ROper := [
  ⟨some 2, .mv (.c (.bool false)), none⟩]
def f70r1 : List ROper := [
  ⟨some 3, .mv (.t 0), none⟩,
  ⟨some 4, .bin .eql (.t 3) (.c (.int .u8 (.ofNat 94))), none⟩,
  ⟨some 5, .mv (.t 4), none⟩,
  ⟨some 6, .mv (.t 0), some (5, false)⟩,
  ⟨some 7, .bin .eql (.t 6) (.c (.int .u8 (.ofNat 96))), some (5, false)⟩,
  ⟨some 8, .pick (.t 5) (.c (.bool true)) (.t 7), none⟩,
  ⟨some 9, .mv (.t 8), none⟩,
  ⟨some 10, .mv (.t 0), some (9, false)⟩,
  ⟨some 11, .bin .eql (.t 10) (.c (.int .u8 (.ofNat 126))), some (9, false)⟩,
  ⟨some 12, .pick (.t 9) (.c (.bool true)) (.t 11), none⟩,
  ⟨some 2, .mv (.t 12), none⟩]
def f70 : RFunc := ⟨[.t 2], (.seq (.region f70r0 [0]) (.seq (.region f70r1 [2]) .ret)), true⟩

/-! quire/cluster.letter -/
def f74r0 : List ROper := [
  ⟨some 2, .mv (.c (.bool false)), none⟩]
def f74r1 : List ROper := [
  ⟨some 3, .mv (.t 0), none⟩,
  ⟨some 4, .bin .geq (.t 3) (.c (.int .u8 (.ofNat 97))), none⟩,
  ⟨some 5, .mv (.t 4), none⟩,
  ⟨some 6, .mv (.t 0), some (5, true)⟩,
  ⟨some 7, .bin .leq (.t 6) (.c (.int .u8 (.ofNat 122))), some (5, true)⟩,
  ⟨some 8, .pick (.t 5) (.t 7) (.c (.bool false)), none⟩,
  ⟨some 9, .mv (.t 8), none⟩,
  ⟨some 10, .mv (.t 0), some (9, false)⟩,
  ⟨some 11, .bin .geq (.t 10) (.c (.int .u8 (.ofNat 65))), some (9, false)⟩,
  ⟨some 12, .mv (.t 11), some (9, false)⟩,
  ⟨some 13, .mv (.t 0), some (12, true)⟩,
  ⟨some 14, .bin .leq (.t 13) (.c (.int .u8 (.ofNat 90))), some (12, true)⟩,
  ⟨some 15, .pick (.t 12) (.t 14) (.c (.bool false)), some (9, false)⟩,
  ⟨some 16, .pick (.t 9) (.c (.bool true)) (.t 15), none⟩,
  ⟨some 2, .mv (.t 16), none⟩]
def f74 : RFunc := ⟨[.t 2], (.seq (.region f74r0 [0]) (.seq (.region f74r1 [2]) .ret)), true⟩

def tree : TT := (.node 41 (.node 23 (.node 16 (.node 12 (.node 10 (.leaf 6 (.code f6)) (.leaf 10 (.code f10))) (.node 13 (.leaf 12 (.code f12)) (.leaf 13 (.code f13)))) (.node 19 (.node 17 (.leaf 16 (.code f16)) (.leaf 17 (.code f17))) (.node 21 (.leaf 19 (.code f19)) (.leaf 21 (.code f21))))) (.node 29 (.node 26 (.node 25 (.leaf 23 (.code f23)) (.leaf 25 (.code f25))) (.node 27 (.leaf 26 (.code f26)) (.leaf 27 (.code f27)))) (.node 31 (.node 30 (.leaf 29 (.code f29)) (.leaf 30 (.code f30))) (.node 32 (.leaf 31 (.code f31)) (.node 40 (.leaf 32 (.code f32)) (.leaf 40 (.code f40))))))) (.node 61 (.node 51 (.node 43 (.node 42 (.leaf 41 (.code f41)) (.leaf 42 (.code f42))) (.node 44 (.leaf 43 (.code f43)) (.leaf 44 (.code f44)))) (.node 55 (.node 54 (.leaf 51 (.code f51)) (.leaf 54 (.code f54))) (.node 56 (.leaf 55 (.code f55)) (.node 57 (.leaf 56 (.code f56)) (.leaf 57 (.code f57)))))) (.node 68 (.node 64 (.node 62 (.leaf 61 (.code f61)) (.leaf 62 (.code f62))) (.node 65 (.leaf 64 (.prim countByteD)) (.leaf 65 (.code f65)))) (.node 70 (.node 69 (.leaf 68 (.code f68)) (.leaf 69 (.code f69))) (.node 72 (.leaf 70 (.code f70)) (.node 74 (.leaf 72 (.prim indexByteD)) (.leaf 74 (.code f74))))))))

def fms : List (Nat × FuncId) := [(64, 64), (65, 65), (68, 68), (69, 69), (70, 70), (6, 6), (72, 72), (73, 73), (74, 74), (10, 10), (12, 12), (13, 13), (16, 16), (17, 17), (19, 19), (21, 21), (23, 23), (25, 25), (26, 26), (27, 27), (29, 29), (30, 30), (31, 31), (32, 32), (40, 40), (41, 41), (42, 42), (43, 43), (44, 44), (51, 51), (54, 54), (55, 55), (56, 56), (57, 57), (61, 61), (62, 62), (63, 63)]

end Go.D.Tab
