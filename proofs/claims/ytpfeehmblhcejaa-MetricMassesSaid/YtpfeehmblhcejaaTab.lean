/-
The code of what the laws reach, as a table of the small language. Printed by wip/gen.
-/
import Derived.Test.YtpfeehmblhcejaaFwDPrim
namespace Go.D.Tab

/-! quire/quirelaw07.MetricMasses -/
@[simp] def f3r0 : List ROper := [
  ⟨some 1, .box 21 (.t 0), none⟩,
  ⟨some 2, .mv (.c (.bool false)), none⟩]
@[simp] def f3r1 : List ROper := [
  ⟨some 11, .faddr 1 (.t 1), none⟩,
  ⟨some 12, .load 1 false (.t 11), none⟩,
  ⟨some 13, .len .slice (.t 12), none⟩,
  ⟨some 14, .bin .gtr (.t 13) (.c (.int .i64 (.ofNat 5000))), none⟩,
  ⟨some 15, .mv (.t 14), none⟩,
  ⟨some 16, .faddr 20 (.t 1), some (15, false)⟩,
  ⟨some 17, .load 1 false (.t 16), some (15, false)⟩,
  ⟨some 18, .len .slice (.t 17), some (15, false)⟩,
  ⟨some 19, .bin .gtr (.t 18) (.c (.int .i64 (.ofNat 5000))), some (15, false)⟩,
  ⟨some 20, .pick (.t 15) (.c (.bool true)) (.t 19), none⟩]
@[simp] def f3r2 : List ROper := [
  ⟨some 2, .mv (.c (.bool true)), none⟩]
@[simp] def f3r3 : List ROper := [
  ⟨some 21, .load 21 true (.t 1), none⟩,
  ⟨some 22, .call 9 [(.t 21)], none⟩,
  ⟨some 3, .alloc [(.str []), (.list 0 0 .no false []), (.int .i64 (.ofNat 0)), (.int .i64 (.ofNat 0)), (.int .i64 (.ofNat 0)), (.int .i64 (.ofNat 0)), (.int .i64 (.ofNat 0)), (.int .i64 (.ofNat 0)), (.int .i64 (.ofNat 0)), (.int .i64 (.ofNat 0)), (.int .i64 (.ofNat 0)), (.int .i64 (.ofNat 0)), (.int .i64 (.ofNat 0)), (.int .i64 (.ofNat 0)), (.int .i64 (.ofNat 0)), (.int .i64 (.ofNat 0)), (.int .i64 (.ofNat 0)), (.int .i64 (.ofNat 0)), (.int .i64 (.ofNat 0)), (.str []), (.list 0 0 .no false [])], none⟩,
  ⟨none, .store 21 (.t 3) (.t 22), none⟩]
@[simp] def f3r4 : List ROper := [
  ⟨some 24, .load 21 true (.t 3), none⟩,
  ⟨some 25, .call 100010 [(.t 24)], none⟩,
  ⟨some 23, .mv (.t 25), none⟩,
  ⟨some 26, .extract (.t 23) 0, none⟩,
  ⟨some 27, .extract (.t 23) 1, none⟩,
  ⟨some 4, .mv (.t 26), none⟩,
  ⟨some 5, .mv (.t 27), none⟩]
@[simp] def f3r5 : List ROper := [
  ⟨some 29, .load 21 true (.t 1), none⟩,
  ⟨some 30, .call 11 [(.t 29)], none⟩,
  ⟨some 28, .mv (.t 30), none⟩,
  ⟨some 31, .extract (.t 28) 0, none⟩,
  ⟨some 32, .extract (.t 28) 1, none⟩,
  ⟨some 6, .mv (.t 31), none⟩,
  ⟨some 7, .mv (.t 32), none⟩]
@[simp] def f3r6 : List ROper := [
  ⟨some 33, .mv (.t 4), none⟩,
  ⟨some 34, .mv (.t 6), none⟩,
  ⟨some 35, .call 12 [(.t 33), (.t 34)], none⟩,
  ⟨some 36, .un .not (.t 35), none⟩,
  ⟨some 37, .mv (.t 36), none⟩,
  ⟨some 38, .mv (.t 5), some (37, false)⟩,
  ⟨some 39, .mv (.t 7), some (37, false)⟩,
  ⟨some 40, .bin .neq (.t 38) (.t 39), some (37, false)⟩,
  ⟨some 41, .pick (.t 37) (.c (.bool true)) (.t 40), none⟩,
  ⟨some 42, .mv (.t 41), none⟩,
  ⟨some 43, .load 21 true (.t 3), some (42, false)⟩,
  ⟨some 44, .call 13 [(.t 43)], some (42, false)⟩,
  ⟨some 45, .load 21 true (.t 1), some (42, false)⟩,
  ⟨some 46, .call 14 [(.t 45)], some (42, false)⟩,
  ⟨some 47, .bin .neq (.t 44) (.t 46), some (42, false)⟩,
  ⟨some 48, .pick (.t 42) (.c (.bool true)) (.t 47), none⟩,
  ⟨some 49, .mv (.t 48), none⟩,
  ⟨some 50, .load 21 true (.t 3), some (49, false)⟩,
  ⟨some 51, .load 21 true (.t 1), some (49, false)⟩,
  ⟨some 52, .call 15 [(.t 50), (.t 51)], some (49, false)⟩,
  ⟨some 53, .un .not (.t 52), some (49, false)⟩,
  ⟨some 54, .pick (.t 49) (.c (.bool true)) (.t 53), none⟩]
@[simp] def f3r7 : List ROper := [
  ⟨some 2, .mv (.c (.bool false)), none⟩]
@[simp] def f3r8 : List ROper := [
  ⟨some 8, .mv (.c (.int .i64 (.ofNat 0))), none⟩]
@[simp] def f3r9 : List ROper := [
  ⟨some 55, .mv (.t 8), none⟩,
  ⟨some 56, .mv (.t 4), none⟩,
  ⟨some 57, .len .slice (.t 56), none⟩,
  ⟨some 58, .bin .lss (.t 55) (.t 57), none⟩]
@[simp] def f3r10 : List ROper := [
  ⟨some 61, .mv (.t 4), none⟩,
  ⟨some 62, .mv (.t 8), none⟩,
  ⟨some 63, .iaddr 6 (.t 61) (.t 62), none⟩,
  ⟨some 64, .faddr 4 (.t 63), none⟩,
  ⟨none, .store 1 (.t 64) (.c (.int .i64 (.ofNat 99))), none⟩]
@[simp] def f3r11 : List ROper := [
  ⟨some 59, .mv (.t 8), none⟩,
  ⟨some 60, .bin .add (.t 59) (.c (.int .i64 (.ofNat 1))), none⟩,
  ⟨some 8, .mv (.t 60), none⟩]
def f3B0 : RC := (.seq (.seq (.region f3r9 [3, 4, 6, 8, 58]) (.cond (.t 58) .skip (.exit 0))) (.seq (.block 1 (.region f3r10 [3, 4, 6, 8])) (.region f3r11 [3, 4, 6, 8])))
def f3L0 : RC := .loop [3, 4, 6, 8] f3B0
@[simp] def f3r12 : List ROper := [
  ⟨some 66, .load 21 true (.t 3), none⟩,
  ⟨some 67, .call 10 [(.t 66)], none⟩,
  ⟨some 65, .mv (.t 67), none⟩,
  ⟨some 68, .extract (.t 65) 0, none⟩,
  ⟨some 69, .extract (.t 65) 1, none⟩,
  ⟨some 9, .mv (.t 68), none⟩,
  ⟨some 10, .mv (.t 69), none⟩]
@[simp] def f3r13 : List ROper := [
  ⟨some 70, .mv (.t 9), none⟩,
  ⟨some 71, .mv (.t 6), none⟩,
  ⟨some 72, .call 12 [(.t 70), (.t 71)], none⟩,
  ⟨some 73, .mv (.t 72), none⟩,
  ⟨some 74, .call 16 [], some (73, true)⟩,
  ⟨some 75, .pick (.t 73) (.t 74) (.c (.bool false)), none⟩,
  ⟨some 2, .mv (.t 75), none⟩]
def f3 : RFunc := ⟨[.t 2], (.seq (.region f3r0 [1]) (.seq (.seq (.region f3r1 [1, 20]) (.cond (.t 20) (.seq (.region f3r2 [2]) .ret) .skip)) (.seq (.region f3r3 [1, 3]) (.seq (.region f3r4 [1, 3, 4, 5]) (.seq (.region f3r5 [1, 3, 4, 5, 6, 7]) (.seq (.seq (.dregion f3r6 [] [] [3, 4, 6, 54]) (.cond (.t 54) (.seq (.region f3r7 [2]) .ret) .skip)) (.seq (.seq (.region f3r8 [3, 4, 6, 8]) (.block 0 f3L0)) (.seq (.region f3r12 [6, 9]) (.seq (.region f3r13 [2]) .ret))))))))), true⟩

/-! quire/quirelaw07.MetricTells -/
@[simp] def f4r0 : List ROper := [
  ⟨some 8, .mv (.c (.bool false)), none⟩]
@[simp] def f4r1 : List ROper := [
  ⟨some 18, .mv (.t 0), none⟩,
  ⟨some 19, .mv (.t 3), none⟩,
  ⟨some 20, .call 17 [(.t 18), (.t 19)], none⟩,
  ⟨some 17, .mv (.t 20), none⟩,
  ⟨some 21, .extract (.t 17) 0, none⟩,
  ⟨some 22, .extract (.t 17) 1, none⟩,
  ⟨some 9, .mv (.t 21), none⟩,
  ⟨some 10, .mv (.t 22), none⟩]
@[simp] def f4r2 : List ROper := [
  ⟨some 24, .mv (.t 0), none⟩,
  ⟨some 25, .mv (.t 3), none⟩,
  ⟨some 26, .call 18 [(.t 24), (.t 25)], none⟩,
  ⟨some 23, .mv (.t 26), none⟩,
  ⟨some 27, .extract (.t 23) 0, none⟩,
  ⟨some 28, .extract (.t 23) 1, none⟩,
  ⟨some 11, .mv (.t 27), none⟩,
  ⟨some 12, .mv (.t 28), none⟩]
@[simp] def f4r3 : List ROper := [
  ⟨some 30, .mv (.t 1), none⟩,
  ⟨some 31, .mv (.t 2), none⟩,
  ⟨some 32, .mv (.t 3), none⟩,
  ⟨some 33, .call 19 [(.t 30), (.t 31), (.t 32)], none⟩,
  ⟨some 29, .mv (.t 33), none⟩,
  ⟨some 34, .extract (.t 29) 0, none⟩,
  ⟨some 35, .extract (.t 29) 1, none⟩,
  ⟨some 13, .mv (.t 34), none⟩,
  ⟨some 14, .mv (.t 35), none⟩]
@[simp] def f4r4 : List ROper := [
  ⟨some 37, .mv (.t 1), none⟩,
  ⟨some 38, .mv (.t 2), none⟩,
  ⟨some 39, .mv (.t 3), none⟩,
  ⟨some 40, .call 20 [(.t 37), (.t 38), (.t 39)], none⟩,
  ⟨some 36, .mv (.t 40), none⟩,
  ⟨some 41, .extract (.t 36) 0, none⟩,
  ⟨some 42, .extract (.t 36) 1, none⟩,
  ⟨some 15, .mv (.t 41), none⟩,
  ⟨some 16, .mv (.t 42), none⟩]
@[simp] def f4r5 : List ROper := [
  ⟨some 43, .mv (.t 9), none⟩,
  ⟨some 44, .mv (.t 11), none⟩,
  ⟨some 45, .bin .eql (.t 43) (.t 44), none⟩,
  ⟨some 46, .mv (.t 45), none⟩,
  ⟨some 47, .mv (.t 10), some (46, true)⟩,
  ⟨some 48, .mv (.t 12), some (46, true)⟩,
  ⟨some 49, .bin .eql (.t 47) (.t 48), some (46, true)⟩,
  ⟨some 50, .pick (.t 46) (.t 49) (.c (.bool false)), none⟩,
  ⟨some 51, .mv (.t 50), none⟩,
  ⟨some 52, .mv (.t 13), some (51, true)⟩,
  ⟨some 53, .mv (.t 15), some (51, true)⟩,
  ⟨some 54, .bin .eql (.t 52) (.t 53), some (51, true)⟩,
  ⟨some 55, .pick (.t 51) (.t 54) (.c (.bool false)), none⟩,
  ⟨some 56, .mv (.t 55), none⟩,
  ⟨some 57, .mv (.t 14), some (56, true)⟩,
  ⟨some 58, .mv (.t 16), some (56, true)⟩,
  ⟨some 59, .bin .eql (.t 57) (.t 58), some (56, true)⟩,
  ⟨some 60, .pick (.t 56) (.t 59) (.c (.bool false)), none⟩,
  ⟨some 61, .mv (.t 60), none⟩,
  ⟨some 62, .mv (.t 1), some (61, true)⟩,
  ⟨some 63, .call 21 [(.t 62)], some (61, true)⟩,
  ⟨some 64, .mv (.t 1), some (61, true)⟩,
  ⟨some 65, .call 22 [(.t 64)], some (61, true)⟩,
  ⟨some 66, .bin .eql (.t 63) (.t 65), some (61, true)⟩,
  ⟨some 67, .pick (.t 61) (.t 66) (.c (.bool false)), none⟩,
  ⟨some 68, .mv (.t 67), none⟩,
  ⟨some 69, .call 16 [], some (68, true)⟩,
  ⟨some 70, .pick (.t 68) (.t 69) (.c (.bool false)), none⟩,
  ⟨some 8, .mv (.t 70), none⟩]
def f4 : RFunc := ⟨[.t 8], (.seq (.region f4r0 [0, 1, 2, 3]) (.seq (.region f4r1 [0, 1, 2, 3, 9, 10]) (.seq (.region f4r2 [1, 2, 3, 9, 10, 11, 12]) (.seq (.region f4r3 [1, 2, 3, 9, 10, 11, 12, 13, 14]) (.seq (.region f4r4 [1, 9, 10, 11, 12, 13, 14, 15, 16]) (.seq (.region f4r5 [8]) .ret)))))), true⟩

/-! quire/quirelaw07.MetricNatural -/
@[simp] def f5r0 : List ROper := [
  ⟨some 6, .mv (.c (.bool false)), none⟩]
@[simp] def f5r1 : List ROper := [
  ⟨some 12, .lit 6 true [(.int .i64 (.ofNat 0)), (.int .i64 (.ofNat 0)), (.int .i64 (.ofNat 0)), (.int .i64 (.ofNat 0)), (.int .i64 (.ofNat 0)), (.int .i64 (.ofNat 0))] 0 [], none⟩,
  ⟨some 13, .mv (.t 0), none⟩,
  ⟨some 14, .append 6 true 48 (.t 12) (.t 13), none⟩,
  ⟨some 7, .mv (.t 14), none⟩]
@[simp] def f5r2 : List ROper := [
  ⟨some 16, .mv (.t 7), none⟩,
  ⟨some 17, .mv (.t 1), none⟩,
  ⟨some 18, .mv (.t 2), none⟩,
  ⟨some 19, .call 23 [(.t 16), (.t 17), (.t 18)], none⟩,
  ⟨some 15, .mv (.t 19), none⟩,
  ⟨some 20, .extract (.t 15) 0, none⟩,
  ⟨some 21, .extract (.t 15) 1, none⟩,
  ⟨some 8, .mv (.t 20), none⟩,
  ⟨some 9, .mv (.t 21), none⟩]
@[simp] def f5r3 : List ROper := [
  ⟨some 23, .mv (.t 0), none⟩,
  ⟨some 24, .mv (.t 1), none⟩,
  ⟨some 25, .mv (.t 2), none⟩,
  ⟨some 26, .call 24 [(.t 23), (.t 24), (.t 25)], none⟩,
  ⟨some 22, .mv (.t 26), none⟩,
  ⟨some 27, .extract (.t 22) 0, none⟩,
  ⟨some 28, .extract (.t 22) 1, none⟩,
  ⟨some 10, .mv (.t 27), none⟩,
  ⟨some 11, .mv (.t 28), none⟩]
@[simp] def f5r4 : List ROper := [
  ⟨some 29, .mv (.t 8), none⟩,
  ⟨some 30, .mv (.t 10), none⟩,
  ⟨some 31, .bin .eql (.t 29) (.t 30), none⟩,
  ⟨some 32, .mv (.t 31), none⟩,
  ⟨some 33, .mv (.t 9), some (32, true)⟩,
  ⟨some 34, .mv (.t 11), some (32, true)⟩,
  ⟨some 35, .bin .eql (.t 33) (.t 34), some (32, true)⟩,
  ⟨some 36, .pick (.t 32) (.t 35) (.c (.bool false)), none⟩,
  ⟨some 37, .mv (.t 36), none⟩,
  ⟨some 38, .mv (.t 7), some (37, true)⟩,
  ⟨some 39, .mv (.t 0), some (37, true)⟩,
  ⟨some 40, .call 12 [(.t 38), (.t 39)], some (37, true)⟩,
  ⟨some 41, .pick (.t 37) (.t 40) (.c (.bool false)), none⟩,
  ⟨some 42, .mv (.t 41), none⟩,
  ⟨some 43, .call 16 [], some (42, true)⟩,
  ⟨some 44, .pick (.t 42) (.t 43) (.c (.bool false)), none⟩,
  ⟨some 6, .mv (.t 44), none⟩]
def f5 : RFunc := ⟨[.t 6], (.seq (.region f5r0 [0, 1, 2]) (.seq (.region f5r1 [0, 1, 2, 7]) (.seq (.region f5r2 [0, 1, 2, 7, 8, 9]) (.seq (.region f5r3 [0, 7, 8, 9, 10, 11]) (.seq (.region f5r4 [6]) .ret))))), true⟩

/-! quire/quirelaw07.MetricKnown -/
@[simp] def f6r0 : List ROper := [
  ⟨some 0, .mv (.c (.bool false)), none⟩]
@[simp] def f6r1 : List ROper := [
  ⟨some 23, .call 16 [], none⟩,
  ⟨some 24, .un .not (.t 23), none⟩,
  ⟨some 25, .mv (.t 24), none⟩,
  ⟨some 26, .call 21 [(.c (.int .u8 (.ofNat 105)))], some (25, false)⟩,
  ⟨some 27, .bin .neq (.t 26) (.c (.int .i64 (.ofNat 2))), some (25, false)⟩,
  ⟨some 28, .pick (.t 25) (.c (.bool true)) (.t 27), none⟩,
  ⟨some 29, .mv (.t 28), none⟩,
  ⟨some 30, .call 21 [(.c (.int .u8 (.ofNat 109)))], some (29, false)⟩,
  ⟨some 31, .bin .neq (.t 30) (.c (.int .i64 (.ofNat 7))), some (29, false)⟩,
  ⟨some 32, .pick (.t 29) (.c (.bool true)) (.t 31), none⟩,
  ⟨some 33, .mv (.t 32), none⟩,
  ⟨some 34, .call 21 [(.c (.int .u8 (.ofNat 77)))], some (33, false)⟩,
  ⟨some 35, .bin .neq (.t 34) (.c (.int .i64 (.ofNat 8))), some (33, false)⟩,
  ⟨some 36, .pick (.t 33) (.c (.bool true)) (.t 35), none⟩,
  ⟨some 37, .mv (.t 36), none⟩,
  ⟨some 38, .call 21 [(.c (.int .u8 (.ofNat 53)))], some (37, false)⟩,
  ⟨some 39, .bin .neq (.t 38) (.c (.int .i64 (.ofNat 5))), some (37, false)⟩,
  ⟨some 40, .pick (.t 37) (.c (.bool true)) (.t 39), none⟩,
  ⟨some 41, .mv (.t 40), none⟩,
  ⟨some 42, .call 21 [(.c (.int .u8 (.ofNat 10)))], some (41, false)⟩,
  ⟨some 43, .bin .neq (.t 42) (.c (.int .i64 (.ofNat 0))), some (41, false)⟩,
  ⟨some 44, .pick (.t 41) (.c (.bool true)) (.t 43), none⟩]
@[simp] def f6r2 : List ROper := [
  ⟨some 0, .mv (.c (.bool false)), none⟩]
@[simp] def f6r3 : List ROper := [
  ⟨some 46, .call 17 [(.c (.str [87, 105, 116])), (.c (.int .i64 (.ofNat 8)))], none⟩,
  ⟨some 45, .mv (.t 46), none⟩,
  ⟨some 47, .extract (.t 45) 0, none⟩,
  ⟨some 48, .extract (.t 45) 1, none⟩,
  ⟨some 1, .mv (.t 47), none⟩,
  ⟨some 2, .mv (.t 48), none⟩]
@[simp] def f6r4 : List ROper := [
  ⟨some 50, .call 17 [(.c (.str [87, 105, 116])), (.c (.int .i64 (.ofNat 10)))], none⟩,
  ⟨some 49, .mv (.t 50), none⟩,
  ⟨some 51, .extract (.t 49) 0, none⟩,
  ⟨some 52, .extract (.t 49) 1, none⟩,
  ⟨some 3, .mv (.t 51), none⟩,
  ⟨some 4, .mv (.t 52), none⟩]
@[simp] def f6r5 : List ROper := [
  ⟨some 54, .call 17 [(.c (.str [])), (.c (.int .i64 (.ofNat 0)))], none⟩,
  ⟨some 53, .mv (.t 54), none⟩,
  ⟨some 55, .extract (.t 53) 0, none⟩,
  ⟨some 56, .extract (.t 53) 1, none⟩,
  ⟨some 5, .mv (.t 55), none⟩,
  ⟨some 6, .mv (.t 56), none⟩]
@[simp] def f6r6 : List ROper := [
  ⟨some 58, .call 19 [(.c (.int .u8 (.ofNat 65))), (.c (.int .u8 (.ofNat 86))), (.c (.int .i64 (.ofNat 16)))], none⟩,
  ⟨some 57, .mv (.t 58), none⟩,
  ⟨some 59, .extract (.t 57) 0, none⟩,
  ⟨some 60, .extract (.t 57) 1, none⟩,
  ⟨some 7, .mv (.t 59), none⟩,
  ⟨some 8, .mv (.t 60), none⟩]
@[simp] def f6r7 : List ROper := [
  ⟨some 62, .call 19 [(.c (.int .u8 (.ofNat 114))), (.c (.int .u8 (.ofNat 46))), (.c (.int .i64 (.ofNat 16)))], none⟩,
  ⟨some 61, .mv (.t 62), none⟩,
  ⟨some 63, .extract (.t 61) 0, none⟩,
  ⟨some 64, .extract (.t 61) 1, none⟩,
  ⟨some 9, .mv (.t 63), none⟩,
  ⟨some 10, .mv (.t 64), none⟩]
@[simp] def f6r8 : List ROper := [
  ⟨some 66, .call 19 [(.c (.int .u8 (.ofNat 97))), (.c (.int .u8 (.ofNat 98))), (.c (.int .i64 (.ofNat 16)))], none⟩,
  ⟨some 65, .mv (.t 66), none⟩,
  ⟨some 67, .extract (.t 65) 0, none⟩,
  ⟨some 68, .extract (.t 65) 1, none⟩,
  ⟨some 11, .mv (.t 67), none⟩,
  ⟨some 12, .mv (.t 68), none⟩]
@[simp] def f6r9 : List ROper := [
  ⟨some 70, .call 19 [(.c (.int .u8 (.ofNat 65))), (.c (.int .u8 (.ofNat 86))), (.c (.int .i64 (.ofNat 0)))], none⟩,
  ⟨some 69, .mv (.t 70), none⟩,
  ⟨some 71, .extract (.t 69) 0, none⟩,
  ⟨some 72, .extract (.t 69) 1, none⟩,
  ⟨some 13, .mv (.t 71), none⟩,
  ⟨some 14, .mv (.t 72), none⟩]
@[simp] def f6r10 : List ROper := [
  ⟨some 74, .call 25 [], none⟩,
  ⟨some 75, .call 10 [(.t 74)], none⟩,
  ⟨some 73, .mv (.t 75), none⟩,
  ⟨some 76, .extract (.t 73) 0, none⟩,
  ⟨some 77, .extract (.t 73) 1, none⟩,
  ⟨some 15, .mv (.t 76), none⟩,
  ⟨some 16, .mv (.t 77), none⟩]
@[simp] def f6r11 : List ROper := [
  ⟨some 79, .mv (.t 15), none⟩,
  ⟨some 80, .call 23 [(.t 79), (.c (.int .i64 (.ofNat 0))), (.c (.int .i64 (.ofNat 2)))], none⟩,
  ⟨some 78, .mv (.t 80), none⟩,
  ⟨some 81, .extract (.t 78) 0, none⟩,
  ⟨some 82, .extract (.t 78) 1, none⟩,
  ⟨some 17, .mv (.t 81), none⟩,
  ⟨some 18, .mv (.t 82), none⟩]
@[simp] def f6r12 : List ROper := [
  ⟨some 84, .mv (.t 15), none⟩,
  ⟨some 85, .call 23 [(.t 84), (.c (.int .i64 (.ofNat 1))), (.c (.int .i64 (.ofNat 2)))], none⟩,
  ⟨some 83, .mv (.t 85), none⟩,
  ⟨some 86, .extract (.t 83) 0, none⟩,
  ⟨some 87, .extract (.t 83) 1, none⟩,
  ⟨some 19, .mv (.t 86), none⟩,
  ⟨some 20, .mv (.t 87), none⟩]
@[simp] def f6r13 : List ROper := [
  ⟨some 88, .mv (.t 1), none⟩,
  ⟨some 89, .bin .eql (.t 88) (.c (.int .i64 (.ofNat 13))), none⟩,
  ⟨some 90, .mv (.t 89), none⟩,
  ⟨some 91, .mv (.t 2), some (90, true)⟩,
  ⟨some 92, .bin .eql (.t 91) (.c (.int .i64 (.ofNat 0))), some (90, true)⟩,
  ⟨some 93, .pick (.t 90) (.t 92) (.c (.bool false)), none⟩,
  ⟨some 94, .mv (.t 93), none⟩,
  ⟨some 95, .mv (.t 3), some (94, true)⟩,
  ⟨some 96, .bin .eql (.t 95) (.c (.int .i64 (.ofNat 15))), some (94, true)⟩,
  ⟨some 97, .pick (.t 94) (.t 96) (.c (.bool false)), none⟩,
  ⟨some 98, .mv (.t 97), none⟩,
  ⟨some 99, .mv (.t 4), some (98, true)⟩,
  ⟨some 100, .bin .eql (.t 99) (.c (.int .i64 (.ofNat 0))), some (98, true)⟩,
  ⟨some 101, .pick (.t 98) (.t 100) (.c (.bool false)), none⟩,
  ⟨some 102, .mv (.t 101), none⟩,
  ⟨some 103, .mv (.t 6), some (102, true)⟩,
  ⟨some 104, .bin .eql (.t 103) (.c (.int .i64 (.ofNat 5))), some (102, true)⟩,
  ⟨some 105, .pick (.t 102) (.t 104) (.c (.bool false)), none⟩,
  ⟨some 106, .mv (.t 105), none⟩,
  ⟨some 107, .mv (.t 7), some (106, true)⟩,
  ⟨some 108, .bin .eql (.t 107) (.c (.int .i64 (.negSucc 1))), some (106, true)⟩,
  ⟨some 109, .pick (.t 106) (.t 108) (.c (.bool false)), none⟩,
  ⟨some 110, .mv (.t 109), none⟩,
  ⟨some 111, .mv (.t 8), some (110, true)⟩,
  ⟨some 112, .bin .eql (.t 111) (.c (.int .i64 (.ofNat 0))), some (110, true)⟩,
  ⟨some 113, .pick (.t 110) (.t 112) (.c (.bool false)), none⟩,
  ⟨some 114, .mv (.t 113), none⟩,
  ⟨some 115, .mv (.t 9), some (114, true)⟩,
  ⟨some 116, .bin .eql (.t 115) (.c (.int .i64 (.negSucc 0))), some (114, true)⟩,
  ⟨some 117, .pick (.t 114) (.t 116) (.c (.bool false)), none⟩,
  ⟨some 118, .mv (.t 117), none⟩,
  ⟨some 119, .mv (.t 10), some (118, true)⟩,
  ⟨some 120, .bin .eql (.t 119) (.c (.int .i64 (.ofNat 0))), some (118, true)⟩,
  ⟨some 121, .pick (.t 118) (.t 120) (.c (.bool false)), none⟩,
  ⟨some 122, .mv (.t 121), none⟩,
  ⟨some 123, .mv (.t 11), some (122, true)⟩,
  ⟨some 124, .bin .eql (.t 123) (.c (.int .i64 (.ofNat 0))), some (122, true)⟩,
  ⟨some 125, .pick (.t 122) (.t 124) (.c (.bool false)), none⟩,
  ⟨some 126, .mv (.t 125), none⟩,
  ⟨some 127, .mv (.t 12), some (126, true)⟩,
  ⟨some 128, .bin .eql (.t 127) (.c (.int .i64 (.ofNat 0))), some (126, true)⟩,
  ⟨some 129, .pick (.t 126) (.t 128) (.c (.bool false)), none⟩,
  ⟨some 130, .mv (.t 129), none⟩,
  ⟨some 131, .mv (.t 14), some (130, true)⟩,
  ⟨some 132, .bin .eql (.t 131) (.c (.int .i64 (.ofNat 5))), some (130, true)⟩,
  ⟨some 133, .pick (.t 130) (.t 132) (.c (.bool false)), none⟩,
  ⟨some 21, .mv (.t 133), none⟩]
@[simp] def f6r14 : List ROper := [
  ⟨some 134, .mv (.t 17), none⟩,
  ⟨some 135, .bin .eql (.t 134) (.c (.int .i64 (.ofNat 22))), none⟩,
  ⟨some 136, .mv (.t 135), none⟩,
  ⟨some 137, .mv (.t 18), some (136, true)⟩,
  ⟨some 138, .bin .eql (.t 137) (.c (.int .i64 (.ofNat 0))), some (136, true)⟩,
  ⟨some 139, .pick (.t 136) (.t 138) (.c (.bool false)), none⟩,
  ⟨some 140, .mv (.t 139), none⟩,
  ⟨some 141, .mv (.t 19), some (140, true)⟩,
  ⟨some 142, .bin .eql (.t 141) (.c (.int .i64 (.ofNat 12))), some (140, true)⟩,
  ⟨some 143, .pick (.t 140) (.t 142) (.c (.bool false)), none⟩,
  ⟨some 144, .mv (.t 143), none⟩,
  ⟨some 145, .mv (.t 20), some (144, true)⟩,
  ⟨some 146, .bin .eql (.t 145) (.c (.int .i64 (.ofNat 0))), some (144, true)⟩,
  ⟨some 147, .pick (.t 144) (.t 146) (.c (.bool false)), none⟩,
  ⟨some 22, .mv (.t 147), none⟩]
@[simp] def f6r15 : List ROper := [
  ⟨some 148, .mv (.t 21), none⟩,
  ⟨some 149, .mv (.t 148), none⟩,
  ⟨some 150, .mv (.t 22), some (149, true)⟩,
  ⟨some 151, .pick (.t 149) (.t 150) (.c (.bool false)), none⟩,
  ⟨some 152, .mv (.t 151), none⟩,
  ⟨some 153, .build [(.int .i64 (.ofNat 0)), (.int .i64 (.ofNat 0)), (.int .i64 (.ofNat 0)), (.int .i64 (.ofNat 0))] [(0, 1, (.c (.int .i64 (.ofNat 1))))], some (152, true)⟩,
  ⟨some 154, .lit 4 true [(.int .i64 (.ofNat 0)), (.int .i64 (.ofNat 0)), (.int .i64 (.ofNat 0)), (.int .i64 (.ofNat 0))] 1 [(0, (.t 153))], some (152, true)⟩,
  ⟨some 155, .call 26 [(.c (.int .i64 (.ofNat 8)))], some (152, true)⟩,
  ⟨some 156, .build [(.str []), (.list 0 0 .no false []), (.int .i64 (.ofNat 0)), (.int .i64 (.ofNat 0)), (.int .i64 (.ofNat 0)), (.int .i64 (.ofNat 0)), (.int .i64 (.ofNat 0)), (.int .i64 (.ofNat 0)), (.int .i64 (.ofNat 0)), (.int .i64 (.ofNat 0)), (.int .i64 (.ofNat 0)), (.int .i64 (.ofNat 0)), (.int .i64 (.ofNat 0)), (.int .i64 (.ofNat 0)), (.int .i64 (.ofNat 0)), (.int .i64 (.ofNat 0)), (.int .i64 (.ofNat 0)), (.int .i64 (.ofNat 0)), (.int .i64 (.ofNat 0)), (.str []), (.list 0 0 .no false [])] [(0, 1, (.c (.str [3]))), (1, 1, (.t 154)), (2, 17, (.t 155))], some (152, true)⟩,
  ⟨some 157, .call 13 [(.t 156)], some (152, true)⟩,
  ⟨some 158, .bin .eql (.t 157) (.c (.int .i64 (.ofNat 4))), some (152, true)⟩,
  ⟨some 159, .pick (.t 152) (.t 158) (.c (.bool false)), none⟩,
  ⟨some 160, .mv (.t 159), none⟩,
  ⟨some 161, .call 26 [(.c (.int .i64 (.ofNat 8)))], some (160, true)⟩,
  ⟨some 162, .build [(.str []), (.list 0 0 .no false []), (.int .i64 (.ofNat 0)), (.int .i64 (.ofNat 0)), (.int .i64 (.ofNat 0)), (.int .i64 (.ofNat 0)), (.int .i64 (.ofNat 0)), (.int .i64 (.ofNat 0)), (.int .i64 (.ofNat 0)), (.int .i64 (.ofNat 0)), (.int .i64 (.ofNat 0)), (.int .i64 (.ofNat 0)), (.int .i64 (.ofNat 0)), (.int .i64 (.ofNat 0)), (.int .i64 (.ofNat 0)), (.int .i64 (.ofNat 0)), (.int .i64 (.ofNat 0)), (.int .i64 (.ofNat 0)), (.int .i64 (.ofNat 0)), (.str []), (.list 0 0 .no false [])] [(0, 1, (.c (.str [97]))), (2, 17, (.t 161))], some (160, true)⟩,
  ⟨some 163, .call 13 [(.t 162)], some (160, true)⟩,
  ⟨some 164, .bin .eql (.t 163) (.c (.int .i64 (.ofNat 2))), some (160, true)⟩,
  ⟨some 165, .pick (.t 160) (.t 164) (.c (.bool false)), none⟩,
  ⟨some 0, .mv (.t 165), none⟩]
def f6 : RFunc := ⟨[.t 0], (.seq (.region f6r0 []) (.seq (.seq (.region f6r1 [44]) (.cond (.t 44) (.seq (.region f6r2 [0]) .ret) .skip)) (.seq (.region f6r3 [1, 2]) (.seq (.region f6r4 [1, 2, 3, 4]) (.seq (.region f6r5 [1, 2, 3, 4, 6]) (.seq (.region f6r6 [1, 2, 3, 4, 6, 7, 8]) (.seq (.region f6r7 [1, 2, 3, 4, 6, 7, 8, 9, 10]) (.seq (.region f6r8 [1, 2, 3, 4, 6, 7, 8, 9, 10, 11, 12]) (.seq (.region f6r9 [1, 2, 3, 4, 6, 7, 8, 9, 10, 11, 12, 14]) (.seq (.region f6r10 [1, 2, 3, 4, 6, 7, 8, 9, 10, 11, 12, 14, 15]) (.seq (.region f6r11 [1, 2, 3, 4, 6, 7, 8, 9, 10, 11, 12, 14, 15, 17, 18]) (.seq (.region f6r12 [1, 2, 3, 4, 6, 7, 8, 9, 10, 11, 12, 14, 17, 18, 19, 20]) (.seq (.region f6r13 [17, 18, 19, 20, 21]) (.seq (.region f6r14 [21, 22]) (.seq (.region f6r15 [0]) .ret))))))))))))))), true⟩

/-! quire/quirelaw07.MetricJoins -/
@[simp] def f7r0 : List ROper := [
  ⟨some 4, .box 21 (.t 0), none⟩,
  ⟨some 8, .mv (.c (.bool false)), none⟩]
@[simp] def f7r1 : List ROper := [
  ⟨some 21, .call 6 [], none⟩,
  ⟨some 9, .mv (.t 21), none⟩]
@[simp] def f7r2 : List ROper := [
  ⟨some 23, .load 21 true (.t 4), none⟩,
  ⟨some 24, .call 10 [(.t 23)], none⟩,
  ⟨some 22, .mv (.t 24), none⟩,
  ⟨some 25, .extract (.t 22) 0, none⟩,
  ⟨some 26, .extract (.t 22) 1, none⟩,
  ⟨some 10, .mv (.t 25), none⟩,
  ⟨some 11, .mv (.t 26), none⟩]
@[simp] def f7r3 : List ROper := [
  ⟨some 28, .faddr 0 (.t 4), none⟩,
  ⟨some 29, .load 1 false (.t 28), none⟩,
  ⟨some 30, .call 27 [(.t 29)], none⟩,
  ⟨some 27, .mv (.t 30), none⟩,
  ⟨some 31, .extract (.t 27) 0, none⟩,
  ⟨some 32, .extract (.t 27) 1, none⟩,
  ⟨some 12, .mv (.t 31), none⟩,
  ⟨some 13, .mv (.t 32), none⟩]
@[simp] def f7r4 : List ROper := [
  ⟨some 33, .mv (.t 11), none⟩,
  ⟨some 34, .bin .neq (.t 33) (.c (.int .i64 (.ofNat 0))), none⟩]
@[simp] def f7r5 : List ROper := [
  ⟨some 35, .mv (.t 9), none⟩,
  ⟨some 36, .mv (.t 35), none⟩,
  ⟨some 37, .mv (.t 10), some (36, true)⟩,
  ⟨some 38, .len .slice (.t 37), some (36, true)⟩,
  ⟨some 39, .bin .eql (.t 38) (.c (.int .i64 (.ofNat 0))), some (36, true)⟩,
  ⟨some 40, .pick (.t 36) (.t 39) (.c (.bool false)), none⟩,
  ⟨some 8, .mv (.t 40), none⟩]
@[simp] def f7r6 : List ROper := [
  ⟨some 41, .mv (.t 13), none⟩,
  ⟨some 42, .bin .neq (.t 41) (.c (.int .i64 (.ofNat 0))), none⟩,
  ⟨some 43, .mv (.t 42), none⟩,
  ⟨some 44, .mv (.t 10), some (43, false)⟩,
  ⟨some 45, .len .slice (.t 44), some (43, false)⟩,
  ⟨some 46, .mv (.t 12), some (43, false)⟩,
  ⟨some 47, .len .slice (.t 46), some (43, false)⟩,
  ⟨some 48, .bin .neq (.t 45) (.t 47), some (43, false)⟩,
  ⟨some 49, .pick (.t 43) (.c (.bool true)) (.t 48), none⟩]
@[simp] def f7r7 : List ROper := [
  ⟨some 8, .mv (.c (.bool false)), none⟩]
@[simp] def f7r8 : List ROper := [
  ⟨some 14, .mv (.c (.int .i64 (.ofNat 0))), none⟩]
@[simp] def f7r9 : List ROper := [
  ⟨some 50, .mv (.t 14), none⟩,
  ⟨some 51, .mv (.t 10), none⟩,
  ⟨some 52, .len .slice (.t 51), none⟩,
  ⟨some 53, .bin .lss (.t 50) (.t 52), none⟩]
@[simp] def f7r10 : List ROper := [
  ⟨some 56, .mv (.t 10), none⟩,
  ⟨some 57, .mv (.t 14), none⟩,
  ⟨some 58, .iaddr 6 (.t 56) (.t 57), none⟩,
  ⟨some 59, .faddr 0 (.t 58), none⟩,
  ⟨some 60, .load 1 false (.t 59), none⟩,
  ⟨some 61, .mv (.t 12), none⟩,
  ⟨some 62, .mv (.t 14), none⟩,
  ⟨some 63, .iaddr 3 (.t 61) (.t 62), none⟩,
  ⟨some 64, .faddr 0 (.t 63), none⟩,
  ⟨some 65, .load 1 false (.t 64), none⟩,
  ⟨some 66, .bin .neq (.t 60) (.t 65), none⟩,
  ⟨some 67, .mv (.t 66), none⟩,
  ⟨some 68, .mv (.t 10), some (67, false)⟩,
  ⟨some 69, .mv (.t 14), some (67, false)⟩,
  ⟨some 70, .iaddr 6 (.t 68) (.t 69), some (67, false)⟩,
  ⟨some 71, .faddr 1 (.t 70), some (67, false)⟩,
  ⟨some 72, .load 1 false (.t 71), some (67, false)⟩,
  ⟨some 73, .mv (.t 12), some (67, false)⟩,
  ⟨some 74, .mv (.t 14), some (67, false)⟩,
  ⟨some 75, .iaddr 3 (.t 73) (.t 74), some (67, false)⟩,
  ⟨some 76, .faddr 1 (.t 75), some (67, false)⟩,
  ⟨some 77, .load 1 false (.t 76), some (67, false)⟩,
  ⟨some 78, .bin .neq (.t 72) (.t 77), some (67, false)⟩,
  ⟨some 79, .pick (.t 67) (.c (.bool true)) (.t 78), none⟩,
  ⟨some 80, .mv (.t 79), none⟩,
  ⟨some 81, .mv (.t 10), some (80, false)⟩,
  ⟨some 82, .mv (.t 14), some (80, false)⟩,
  ⟨some 83, .iaddr 6 (.t 81) (.t 82), some (80, false)⟩,
  ⟨some 84, .faddr 2 (.t 83), some (80, false)⟩,
  ⟨some 85, .load 1 false (.t 84), some (80, false)⟩,
  ⟨some 86, .mv (.t 12), some (80, false)⟩,
  ⟨some 87, .mv (.t 14), some (80, false)⟩,
  ⟨some 88, .iaddr 3 (.t 86) (.t 87), some (80, false)⟩,
  ⟨some 89, .faddr 2 (.t 88), some (80, false)⟩,
  ⟨some 90, .load 1 false (.t 89), some (80, false)⟩,
  ⟨some 91, .bin .neq (.t 85) (.t 90), some (80, false)⟩,
  ⟨some 92, .pick (.t 80) (.c (.bool true)) (.t 91), none⟩,
  ⟨some 93, .mv (.t 92), none⟩,
  ⟨some 94, .mv (.t 10), some (93, false)⟩,
  ⟨some 95, .mv (.t 14), some (93, false)⟩,
  ⟨some 96, .iaddr 6 (.t 94) (.t 95), some (93, false)⟩,
  ⟨some 97, .faddr 5 (.t 96), some (93, false)⟩,
  ⟨some 98, .load 1 false (.t 97), some (93, false)⟩,
  ⟨some 99, .bin .gtr (.t 98) (.c (.int .i64 (.ofNat 0))), some (93, false)⟩,
  ⟨some 100, .pick (.t 93) (.c (.bool true)) (.t 99), none⟩,
  ⟨some 101, .mv (.t 100), none⟩,
  ⟨some 102, .mv (.t 10), some (101, false)⟩,
  ⟨some 103, .mv (.t 14), some (101, false)⟩,
  ⟨some 104, .iaddr 6 (.t 102) (.t 103), some (101, false)⟩,
  ⟨some 105, .faddr 4 (.t 104), some (101, false)⟩,
  ⟨some 106, .load 1 false (.t 105), some (101, false)⟩,
  ⟨some 107, .bin .lss (.t 106) (.c (.int .i64 (.ofNat 0))), some (101, false)⟩,
  ⟨some 108, .pick (.t 101) (.c (.bool true)) (.t 107), none⟩]
@[simp] def f7r11 : List ROper := [
  ⟨some 8, .mv (.c (.bool false)), none⟩]
@[simp] def f7r12 : List ROper := [
  ⟨some 54, .mv (.t 14), none⟩,
  ⟨some 55, .bin .add (.t 54) (.c (.int .i64 (.ofNat 1))), none⟩,
  ⟨some 14, .mv (.t 55), none⟩]
def f7B0 : RC := (.seq (.seq (.region f7r9 [1, 2, 3, 9, 10, 12, 14, 53]) (.cond (.t 53) .skip (.exit 0))) (.seq (.block 1 (.seq (.dregion f7r10 [] [] [1, 2, 3, 9, 10, 12, 14, 108]) (.cond (.t 108) (.seq (.region f7r11 [8]) .ret) .skip))) (.region f7r12 [1, 2, 3, 9, 10, 12, 14])))
def f7L0 : RC := .loop [1, 2, 3, 9, 10, 12, 14] f7B0
@[simp] def f7r13 : List ROper := [
  ⟨some 109, .mv (.t 1), none⟩,
  ⟨some 110, .mv (.t 10), none⟩,
  ⟨some 111, .len .slice (.t 110), none⟩,
  ⟨some 112, .bin .add (.t 111) (.c (.int .i64 (.ofNat 1))), none⟩,
  ⟨some 113, .call 28 [(.t 109), (.t 112)], none⟩,
  ⟨some 1, .mv (.t 113), none⟩]
@[simp] def f7r14 : List ROper := [
  ⟨some 114, .mv (.t 1), none⟩,
  ⟨some 115, .mv (.t 2), none⟩,
  ⟨some 116, .mv (.t 10), none⟩,
  ⟨some 117, .len .slice (.t 116), none⟩,
  ⟨some 118, .bin .add (.t 117) (.c (.int .i64 (.ofNat 1))), none⟩,
  ⟨some 119, .mv (.t 1), none⟩,
  ⟨some 120, .bin .sub (.t 118) (.t 119), none⟩,
  ⟨some 121, .call 28 [(.t 115), (.t 120)], none⟩,
  ⟨some 122, .bin .add (.t 114) (.t 121), none⟩,
  ⟨some 2, .mv (.t 122), none⟩]
@[simp] def f7r15 : List ROper := [
  ⟨some 123, .mv (.t 2), none⟩,
  ⟨some 124, .mv (.t 3), none⟩,
  ⟨some 125, .mv (.t 10), none⟩,
  ⟨some 126, .len .slice (.t 125), none⟩,
  ⟨some 127, .bin .add (.t 126) (.c (.int .i64 (.ofNat 1))), none⟩,
  ⟨some 128, .mv (.t 2), none⟩,
  ⟨some 129, .bin .sub (.t 127) (.t 128), none⟩,
  ⟨some 130, .call 28 [(.t 124), (.t 129)], none⟩,
  ⟨some 131, .bin .add (.t 123) (.t 130), none⟩,
  ⟨some 3, .mv (.t 131), none⟩]
@[simp] def f7r16 : List ROper := [
  ⟨some 133, .mv (.t 10), none⟩,
  ⟨some 134, .mv (.t 1), none⟩,
  ⟨some 135, .mv (.t 2), none⟩,
  ⟨some 136, .call 23 [(.t 133), (.t 134), (.t 135)], none⟩,
  ⟨some 132, .mv (.t 136), none⟩,
  ⟨some 137, .extract (.t 132) 0, none⟩,
  ⟨some 138, .extract (.t 132) 1, none⟩,
  ⟨some 15, .mv (.t 137), none⟩,
  ⟨some 16, .mv (.t 138), none⟩]
@[simp] def f7r17 : List ROper := [
  ⟨some 140, .mv (.t 10), none⟩,
  ⟨some 141, .mv (.t 2), none⟩,
  ⟨some 142, .mv (.t 3), none⟩,
  ⟨some 143, .call 23 [(.t 140), (.t 141), (.t 142)], none⟩,
  ⟨some 139, .mv (.t 143), none⟩,
  ⟨some 144, .extract (.t 139) 0, none⟩,
  ⟨some 145, .extract (.t 139) 1, none⟩,
  ⟨some 17, .mv (.t 144), none⟩,
  ⟨some 18, .mv (.t 145), none⟩]
@[simp] def f7r18 : List ROper := [
  ⟨some 147, .mv (.t 10), none⟩,
  ⟨some 148, .mv (.t 1), none⟩,
  ⟨some 149, .mv (.t 3), none⟩,
  ⟨some 150, .call 23 [(.t 147), (.t 148), (.t 149)], none⟩,
  ⟨some 146, .mv (.t 150), none⟩,
  ⟨some 151, .extract (.t 146) 0, none⟩,
  ⟨some 152, .extract (.t 146) 1, none⟩,
  ⟨some 19, .mv (.t 151), none⟩,
  ⟨some 20, .mv (.t 152), none⟩]
@[simp] def f7r19 : List ROper := [
  ⟨some 153, .mv (.t 16), none⟩,
  ⟨some 154, .bin .neq (.t 153) (.c (.int .i64 (.ofNat 0))), none⟩,
  ⟨some 155, .mv (.t 154), none⟩,
  ⟨some 156, .mv (.t 18), some (155, false)⟩,
  ⟨some 157, .bin .neq (.t 156) (.c (.int .i64 (.ofNat 0))), some (155, false)⟩,
  ⟨some 158, .pick (.t 155) (.c (.bool true)) (.t 157), none⟩,
  ⟨some 159, .mv (.t 158), none⟩,
  ⟨some 160, .mv (.t 20), some (159, false)⟩,
  ⟨some 161, .bin .neq (.t 160) (.c (.int .i64 (.ofNat 0))), some (159, false)⟩,
  ⟨some 162, .pick (.t 159) (.c (.bool true)) (.t 161), none⟩]
@[simp] def f7r20 : List ROper := [
  ⟨some 8, .mv (.c (.bool false)), none⟩]
@[simp] def f7r21 : List ROper := [
  ⟨some 163, .mv (.t 1), none⟩,
  ⟨some 164, .mv (.t 2), none⟩,
  ⟨some 165, .bin .lss (.t 163) (.t 164), none⟩,
  ⟨some 166, .mv (.t 165), none⟩,
  ⟨some 167, .mv (.t 2), some (166, true)⟩,
  ⟨some 168, .mv (.t 3), some (166, true)⟩,
  ⟨some 169, .bin .lss (.t 167) (.t 168), some (166, true)⟩,
  ⟨some 170, .pick (.t 166) (.t 169) (.c (.bool false)), none⟩]
@[simp] def f7r22 : List ROper := [
  ⟨some 171, .mv (.t 15), none⟩,
  ⟨some 172, .mv (.t 10), none⟩,
  ⟨some 173, .mv (.t 2), none⟩,
  ⟨some 174, .iaddr 6 (.t 172) (.t 173), none⟩,
  ⟨some 175, .faddr 5 (.t 174), none⟩,
  ⟨some 176, .load 1 false (.t 175), none⟩,
  ⟨some 177, .bin .add (.t 171) (.t 176), none⟩,
  ⟨some 15, .mv (.t 177), none⟩]
@[simp] def f7r23 : List ROper := [
  ⟨some 178, .mv (.t 9), none⟩,
  ⟨some 179, .mv (.t 178), none⟩,
  ⟨some 180, .mv (.t 15), some (179, true)⟩,
  ⟨some 181, .mv (.t 17), some (179, true)⟩,
  ⟨some 182, .bin .add (.t 180) (.t 181), some (179, true)⟩,
  ⟨some 183, .mv (.t 19), some (179, true)⟩,
  ⟨some 184, .bin .eql (.t 182) (.t 183), some (179, true)⟩,
  ⟨some 185, .pick (.t 179) (.t 184) (.c (.bool false)), none⟩,
  ⟨some 8, .mv (.t 185), none⟩]
def f7 : RFunc := ⟨[.t 8], (.seq (.region f7r0 [1, 2, 3, 4]) (.seq (.region f7r1 [1, 2, 3, 4, 9]) (.seq (.region f7r2 [1, 2, 3, 4, 9, 10, 11]) (.seq (.region f7r3 [1, 2, 3, 9, 10, 11, 12, 13]) (.seq (.seq (.region f7r4 [1, 2, 3, 9, 10, 12, 13, 34]) (.cond (.t 34) (.seq (.region f7r5 [8]) .ret) .skip)) (.seq (.seq (.region f7r6 [1, 2, 3, 9, 10, 12, 49]) (.cond (.t 49) (.seq (.region f7r7 [8]) .ret) .skip)) (.seq (.seq (.region f7r8 [1, 2, 3, 9, 10, 12, 14]) (.block 0 f7L0)) (.seq (.region f7r13 [1, 2, 3, 9, 10]) (.seq (.region f7r14 [1, 2, 3, 9, 10]) (.seq (.region f7r15 [1, 2, 3, 9, 10]) (.seq (.region f7r16 [1, 2, 3, 9, 10, 15, 16]) (.seq (.region f7r17 [1, 2, 3, 9, 10, 15, 16, 17, 18]) (.seq (.region f7r18 [1, 2, 3, 9, 10, 15, 16, 17, 18, 19, 20]) (.seq (.seq (.region f7r19 [1, 2, 3, 9, 10, 15, 17, 19, 162]) (.cond (.t 162) (.seq (.region f7r20 [8]) .ret) .skip)) (.seq (.seq (.region f7r21 [2, 9, 10, 15, 17, 19, 170]) (.cond (.t 170) (.region f7r22 [9, 15, 17, 19]) .skip)) (.seq (.region f7r23 [8]) .ret)))))))))))))))), true⟩

/-! quire/quirelaw07.MetricPlain -/
@[simp] def f8r0 : List ROper := [
  ⟨some 4, .mv (.c (.bool false)), none⟩]
@[simp] def f8r1 : List ROper := [
  ⟨some 13, .call 6 [], none⟩,
  ⟨some 5, .mv (.t 13), none⟩]
@[simp] def f8r2 : List ROper := [
  ⟨some 15, .mv (.t 0), none⟩,
  ⟨some 16, .mv (.t 1), none⟩,
  ⟨some 17, .call 17 [(.t 15), (.t 16)], none⟩,
  ⟨some 14, .mv (.t 17), none⟩,
  ⟨some 18, .extract (.t 14) 0, none⟩,
  ⟨some 19, .extract (.t 14) 1, none⟩,
  ⟨some 6, .mv (.t 18), none⟩,
  ⟨some 7, .mv (.t 19), none⟩]
@[simp] def f8r3 : List ROper := [
  ⟨some 20, .mv (.t 7), none⟩,
  ⟨some 21, .bin .neq (.t 20) (.c (.int .i64 (.ofNat 0))), none⟩,
  ⟨some 22, .mv (.t 21), none⟩,
  ⟨some 23, .mv (.t 0), some (22, false)⟩,
  ⟨some 24, .len .str (.t 23), some (22, false)⟩,
  ⟨some 25, .bin .eql (.t 24) (.c (.int .i64 (.ofNat 0))), some (22, false)⟩,
  ⟨some 26, .pick (.t 22) (.c (.bool true)) (.t 25), none⟩]
@[simp] def f8r4 : List ROper := [
  ⟨some 27, .mv (.t 5), none⟩,
  ⟨some 4, .mv (.t 27), none⟩]
@[simp] def f8r5 : List ROper := [
  ⟨some 8, .mv (.c (.int .i64 (.ofNat 0))), none⟩]
@[simp] def f8r6 : List ROper := [
  ⟨some 28, .mv (.t 8), none⟩,
  ⟨some 29, .mv (.t 0), none⟩,
  ⟨some 30, .len .str (.t 29), none⟩,
  ⟨some 31, .bin .lss (.t 28) (.t 30), none⟩]
@[simp] def f8r7 : List ROper := [
  ⟨some 34, .mv (.t 0), none⟩,
  ⟨some 35, .mv (.t 8), none⟩,
  ⟨some 36, .index (.t 34) (.t 35), none⟩,
  ⟨some 37, .bin .lss (.t 36) (.c (.int .u8 (.ofNat 32))), none⟩,
  ⟨some 38, .mv (.t 37), none⟩,
  ⟨some 39, .mv (.t 0), some (38, false)⟩,
  ⟨some 40, .mv (.t 8), some (38, false)⟩,
  ⟨some 41, .index (.t 39) (.t 40), some (38, false)⟩,
  ⟨some 42, .bin .gtr (.t 41) (.c (.int .u8 (.ofNat 126))), some (38, false)⟩,
  ⟨some 43, .pick (.t 38) (.c (.bool true)) (.t 42), none⟩,
  ⟨some 44, .mv (.t 43), none⟩,
  ⟨some 45, .mv (.t 0), some (44, false)⟩,
  ⟨some 46, .mv (.t 8), some (44, false)⟩,
  ⟨some 47, .index (.t 45) (.t 46), some (44, false)⟩,
  ⟨some 48, .bin .eql (.t 47) (.c (.int .u8 (.ofNat 94))), some (44, false)⟩,
  ⟨some 49, .pick (.t 44) (.c (.bool true)) (.t 48), none⟩,
  ⟨some 50, .mv (.t 49), none⟩,
  ⟨some 51, .mv (.t 0), some (50, false)⟩,
  ⟨some 52, .mv (.t 8), some (50, false)⟩,
  ⟨some 53, .index (.t 51) (.t 52), some (50, false)⟩,
  ⟨some 54, .bin .eql (.t 53) (.c (.int .u8 (.ofNat 126))), some (50, false)⟩,
  ⟨some 55, .pick (.t 50) (.c (.bool true)) (.t 54), none⟩,
  ⟨some 56, .mv (.t 55), none⟩,
  ⟨some 57, .mv (.t 0), some (56, false)⟩,
  ⟨some 58, .mv (.t 8), some (56, false)⟩,
  ⟨some 59, .index (.t 57) (.t 58), some (56, false)⟩,
  ⟨some 60, .bin .eql (.t 59) (.c (.int .u8 (.ofNat 96))), some (56, false)⟩,
  ⟨some 61, .pick (.t 56) (.c (.bool true)) (.t 60), none⟩]
@[simp] def f8r8 : List ROper := [
  ⟨some 62, .mv (.t 5), none⟩,
  ⟨some 4, .mv (.t 62), none⟩]
@[simp] def f8r9 : List ROper := [
  ⟨some 32, .mv (.t 8), none⟩,
  ⟨some 33, .bin .add (.t 32) (.c (.int .i64 (.ofNat 1))), none⟩,
  ⟨some 8, .mv (.t 33), none⟩]
def f8B0 : RC := (.seq (.seq (.region f8r6 [0, 1, 5, 6, 8, 31]) (.cond (.t 31) .skip (.exit 0))) (.seq (.block 1 (.seq (.region f8r7 [0, 1, 5, 6, 8, 61]) (.cond (.t 61) (.seq (.region f8r8 [4]) .ret) .skip))) (.region f8r9 [0, 1, 5, 6, 8])))
def f8L0 : RC := .loop [0, 1, 5, 6, 8] f8B0
@[simp] def f8r10 : List ROper := [
  ⟨some 64, .mv (.t 0), none⟩,
  ⟨some 65, .mv (.t 0), none⟩,
  ⟨some 66, .len .str (.t 65), none⟩,
  ⟨some 67, .build [(.int .i64 (.ofNat 0)), (.int .i64 (.ofNat 0)), (.int .i64 (.ofNat 0)), (.int .i64 (.ofNat 0))] [(0, 1, (.t 66))], none⟩,
  ⟨some 68, .lit 4 true [(.int .i64 (.ofNat 0)), (.int .i64 (.ofNat 0)), (.int .i64 (.ofNat 0)), (.int .i64 (.ofNat 0))] 1 [(0, (.t 67))], none⟩,
  ⟨some 69, .mv (.t 1), none⟩,
  ⟨some 70, .call 26 [(.t 69)], none⟩,
  ⟨some 71, .build [(.str []), (.list 0 0 .no false []), (.int .i64 (.ofNat 0)), (.int .i64 (.ofNat 0)), (.int .i64 (.ofNat 0)), (.int .i64 (.ofNat 0)), (.int .i64 (.ofNat 0)), (.int .i64 (.ofNat 0)), (.int .i64 (.ofNat 0)), (.int .i64 (.ofNat 0)), (.int .i64 (.ofNat 0)), (.int .i64 (.ofNat 0)), (.int .i64 (.ofNat 0)), (.int .i64 (.ofNat 0)), (.int .i64 (.ofNat 0)), (.int .i64 (.ofNat 0)), (.int .i64 (.ofNat 0)), (.int .i64 (.ofNat 0)), (.int .i64 (.ofNat 0)), (.str []), (.list 0 0 .no false [])] [(0, 1, (.t 64)), (1, 1, (.t 68)), (2, 17, (.t 70))], none⟩,
  ⟨some 72, .call 10 [(.t 71)], none⟩,
  ⟨some 63, .mv (.t 72), none⟩,
  ⟨some 73, .extract (.t 63) 0, none⟩,
  ⟨some 74, .extract (.t 63) 1, none⟩,
  ⟨some 9, .mv (.t 73), none⟩,
  ⟨some 10, .mv (.t 74), none⟩]
@[simp] def f8r11 : List ROper := [
  ⟨some 76, .mv (.t 9), none⟩,
  ⟨some 77, .mv (.t 0), none⟩,
  ⟨some 78, .len .str (.t 77), none⟩,
  ⟨some 79, .call 23 [(.t 76), (.c (.int .i64 (.ofNat 0))), (.t 78)], none⟩,
  ⟨some 75, .mv (.t 79), none⟩,
  ⟨some 80, .extract (.t 75) 0, none⟩,
  ⟨some 81, .extract (.t 75) 1, none⟩,
  ⟨some 11, .mv (.t 80), none⟩,
  ⟨some 12, .mv (.t 81), none⟩]
@[simp] def f8r12 : List ROper := [
  ⟨some 82, .mv (.t 5), none⟩,
  ⟨some 83, .mv (.t 82), none⟩,
  ⟨some 84, .mv (.t 10), some (83, true)⟩,
  ⟨some 85, .bin .eql (.t 84) (.c (.int .i64 (.ofNat 0))), some (83, true)⟩,
  ⟨some 86, .pick (.t 83) (.t 85) (.c (.bool false)), none⟩,
  ⟨some 87, .mv (.t 86), none⟩,
  ⟨some 88, .mv (.t 12), some (87, true)⟩,
  ⟨some 89, .bin .eql (.t 88) (.c (.int .i64 (.ofNat 0))), some (87, true)⟩,
  ⟨some 90, .pick (.t 87) (.t 89) (.c (.bool false)), none⟩,
  ⟨some 91, .mv (.t 90), none⟩,
  ⟨some 92, .mv (.t 11), some (91, true)⟩,
  ⟨some 93, .mv (.t 6), some (91, true)⟩,
  ⟨some 94, .bin .eql (.t 92) (.t 93), some (91, true)⟩,
  ⟨some 95, .pick (.t 91) (.t 94) (.c (.bool false)), none⟩,
  ⟨some 4, .mv (.t 95), none⟩]
def f8 : RFunc := ⟨[.t 4], (.seq (.region f8r0 [0, 1]) (.seq (.region f8r1 [0, 1, 5]) (.seq (.region f8r2 [0, 1, 5, 6, 7]) (.seq (.seq (.region f8r3 [0, 1, 5, 6, 26]) (.cond (.t 26) (.seq (.region f8r4 [4]) .ret) .skip)) (.seq (.seq (.region f8r5 [0, 1, 5, 6, 8]) (.block 0 f8L0)) (.seq (.region f8r10 [0, 5, 6, 9, 10]) (.seq (.region f8r11 [5, 6, 10, 11, 12]) (.seq (.region f8r12 [4]) .ret)))))))), true⟩

/-! quire/quirekit.CopyPara -/
@[simp] def f9r0 : List ROper := [
  ⟨some 1, .box 21 (.t 0), none⟩,
  ⟨some 2, .alloc [(.str []), (.list 0 0 .no false []), (.int .i64 (.ofNat 0)), (.int .i64 (.ofNat 0)), (.int .i64 (.ofNat 0)), (.int .i64 (.ofNat 0)), (.int .i64 (.ofNat 0)), (.int .i64 (.ofNat 0)), (.int .i64 (.ofNat 0)), (.int .i64 (.ofNat 0)), (.int .i64 (.ofNat 0)), (.int .i64 (.ofNat 0)), (.int .i64 (.ofNat 0)), (.int .i64 (.ofNat 0)), (.int .i64 (.ofNat 0)), (.int .i64 (.ofNat 0)), (.int .i64 (.ofNat 0)), (.int .i64 (.ofNat 0)), (.int .i64 (.ofNat 0)), (.str []), (.list 0 0 .no false [])], none⟩]
@[simp] def f9r1 : List ROper := [
  ⟨some 4, .load 21 true (.t 1), none⟩,
  ⟨some 3, .alloc [(.str []), (.list 0 0 .no false []), (.int .i64 (.ofNat 0)), (.int .i64 (.ofNat 0)), (.int .i64 (.ofNat 0)), (.int .i64 (.ofNat 0)), (.int .i64 (.ofNat 0)), (.int .i64 (.ofNat 0)), (.int .i64 (.ofNat 0)), (.int .i64 (.ofNat 0)), (.int .i64 (.ofNat 0)), (.int .i64 (.ofNat 0)), (.int .i64 (.ofNat 0)), (.int .i64 (.ofNat 0)), (.int .i64 (.ofNat 0)), (.int .i64 (.ofNat 0)), (.int .i64 (.ofNat 0)), (.int .i64 (.ofNat 0)), (.int .i64 (.ofNat 0)), (.str []), (.list 0 0 .no false [])], none⟩,
  ⟨none, .store 21 (.t 3) (.t 4), none⟩]
@[simp] def f9r2 : List ROper := [
  ⟨some 5, .lit 4 true [(.int .i64 (.ofNat 0)), (.int .i64 (.ofNat 0)), (.int .i64 (.ofNat 0)), (.int .i64 (.ofNat 0))] 0 [], none⟩,
  ⟨some 6, .faddr 1 (.t 1), none⟩,
  ⟨some 7, .load 1 false (.t 6), none⟩,
  ⟨some 8, .append 4 true 32 (.t 5) (.t 7), none⟩,
  ⟨some 9, .faddr 1 (.t 3), none⟩,
  ⟨none, .store 1 (.t 9) (.t 8), none⟩]
@[simp] def f9r3 : List ROper := [
  ⟨some 10, .lit 1 false [(.str [])] 0 [], none⟩,
  ⟨some 11, .faddr 20 (.t 1), none⟩,
  ⟨some 12, .load 1 false (.t 11), none⟩,
  ⟨some 13, .append 1 false 16 (.t 10) (.t 12), none⟩,
  ⟨some 14, .faddr 20 (.t 3), none⟩,
  ⟨none, .store 1 (.t 14) (.t 13), none⟩]
@[simp] def f9r4 : List ROper := [
  ⟨some 15, .load 21 true (.t 3), none⟩,
  ⟨none, .store 21 (.t 2) (.t 15), none⟩]
def f9 : RFunc := ⟨[.cell 2 21 true], (.seq (.region f9r0 [1, 2]) (.seq (.region f9r1 [1, 2, 3]) (.seq (.region f9r2 [1, 2, 3]) (.seq (.region f9r3 [2, 3]) (.seq (.region f9r4 [2]) .ret))))), true⟩

/-! quire/metric.Masses -/
@[simp] def f10r0 : List ROper := [
  ⟨some 1, .box 21 (.t 0), none⟩,
  ⟨some 2, .mv (.c (.list 0 0 .no false [])), none⟩,
  ⟨some 3, .mv (.c (.int .i64 (.ofNat 0))), none⟩]
@[simp] def f10r1 : List ROper := [
  ⟨some 18, .load 21 true (.t 1), none⟩,
  ⟨some 19, .call 13 [(.t 18)], none⟩,
  ⟨some 4, .mv (.t 19), none⟩]
@[simp] def f10r2 : List ROper := [
  ⟨some 20, .mv (.t 4), none⟩,
  ⟨some 21, .bin .neq (.t 20) (.c (.int .i64 (.ofNat 0))), none⟩]
@[simp] def f10r3 : List ROper := [
  ⟨some 22, .mv (.t 4), none⟩,
  ⟨some 2, .mv (.c (.list 0 0 .no false [])), none⟩,
  ⟨some 3, .mv (.t 22), none⟩]
@[simp] def f10r4 : List ROper := [
  ⟨some 24, .faddr 0 (.t 1), none⟩,
  ⟨some 25, .load 1 false (.t 24), none⟩,
  ⟨some 26, .call 27 [(.t 25)], none⟩,
  ⟨some 23, .mv (.t 26), none⟩,
  ⟨some 27, .extract (.t 23) 0, none⟩,
  ⟨some 28, .extract (.t 23) 1, none⟩,
  ⟨some 5, .mv (.t 27), none⟩,
  ⟨some 6, .mv (.t 28), none⟩]
@[simp] def f10r5 : List ROper := [
  ⟨some 29, .faddr 1 (.t 1), none⟩,
  ⟨some 30, .load 1 false (.t 29), none⟩,
  ⟨some 31, .call 29 [(.t 30)], none⟩,
  ⟨some 7, .mv (.t 31), none⟩]
@[simp] def f10r6 : List ROper := [
  ⟨some 32, .faddr 20 (.t 1), none⟩,
  ⟨some 33, .load 1 false (.t 32), none⟩,
  ⟨some 8, .mv (.t 33), none⟩]
@[simp] def f10r7 : List ROper := [
  ⟨some 9, .mv (.c (.list 0 0 .no false [])), none⟩]
@[simp] def f10r8 : List ROper := [
  ⟨some 10, .mv (.c (.bool false)), none⟩,
  ⟨some 11, .mv (.c (.int .u8 (.ofNat 0))), none⟩]
@[simp] def f10r9 : List ROper := [
  ⟨some 34, .mv (.t 5), none⟩,
  ⟨some 35, .len .slice (.t 34), none⟩,
  ⟨some 36, .mv (.c (.int .i64 (.ofNat 0))), none⟩]
@[simp] def f10r10 : List ROper := [
  ⟨some 37, .bin .lss (.t 36) (.t 35), none⟩]
@[simp] def f10r11 : List ROper := [
  ⟨some 38, .iaddr 3 (.t 34) (.t 36), none⟩,
  ⟨some 39, .load 3 true (.t 38), none⟩,
  ⟨some 13, .alloc [(.int .i64 (.ofNat 0)), (.int .i64 (.ofNat 0)), (.int .i64 (.ofNat 0))], none⟩,
  ⟨none, .store 3 (.t 13) (.t 39), none⟩]
@[simp] def f10r12 : List ROper := [
  ⟨some 40, .mv (.t 7), none⟩,
  ⟨some 41, .faddr 0 (.t 13), none⟩,
  ⟨some 42, .load 1 false (.t 41), none⟩,
  ⟨some 43, .callv (.t 40) [(.t 42)], none⟩,
  ⟨some 14, .alloc [(.int .i64 (.ofNat 0)), (.int .i64 (.ofNat 0)), (.int .i64 (.ofNat 0))], none⟩,
  ⟨none, .store 3 (.t 14) (.t 43), none⟩]
@[simp] def f10r13 : List ROper := [
  ⟨some 44, .faddr 0 (.t 13), none⟩,
  ⟨some 45, .load 1 false (.t 44), none⟩,
  ⟨some 46, .faddr 1 (.t 13), none⟩,
  ⟨some 47, .load 1 false (.t 46), none⟩,
  ⟨some 48, .faddr 2 (.t 13), none⟩,
  ⟨some 49, .load 1 false (.t 48), none⟩,
  ⟨some 50, .faddr 0 (.t 14), none⟩,
  ⟨some 51, .load 1 false (.t 50), none⟩,
  ⟨some 52, .build [(.int .i64 (.ofNat 0)), (.int .i64 (.ofNat 0)), (.int .i64 (.ofNat 0)), (.int .i64 (.ofNat 0)), (.int .i64 (.ofNat 0)), (.int .i64 (.ofNat 0))] [(0, 1, (.t 45)), (1, 1, (.t 47)), (2, 1, (.t 49)), (3, 1, (.t 51))], none⟩,
  ⟨some 15, .alloc [(.int .i64 (.ofNat 0)), (.int .i64 (.ofNat 0)), (.int .i64 (.ofNat 0)), (.int .i64 (.ofNat 0)), (.int .i64 (.ofNat 0)), (.int .i64 (.ofNat 0))], none⟩,
  ⟨none, .store 6 (.t 15) (.t 52), none⟩]
@[simp] def f10r14 : List ROper := [
  ⟨some 53, .faddr 3 (.t 15), none⟩,
  ⟨some 54, .load 1 false (.t 53), none⟩,
  ⟨some 55, .bin .eql (.t 54) (.c (.int .i64 (.ofNat 0))), none⟩]
@[simp] def f10r15 : List ROper := [
  ⟨some 56, .faddr 2 (.t 1), none⟩,
  ⟨some 57, .faddr 0 (.t 56), none⟩,
  ⟨some 58, .load 1 false (.t 57), none⟩,
  ⟨some 59, .faddr 3 (.t 15), none⟩,
  ⟨none, .store 1 (.t 59) (.t 58), none⟩]
@[simp] def f10r16 : List ROper := [
  ⟨some 60, .faddr 0 (.t 1), none⟩,
  ⟨some 61, .load 1 false (.t 60), none⟩,
  ⟨some 62, .faddr 0 (.t 13), none⟩,
  ⟨some 63, .load 1 false (.t 62), none⟩,
  ⟨some 64, .index (.t 61) (.t 63), none⟩,
  ⟨some 16, .mv (.t 64), none⟩]
@[simp] def f10r17 : List ROper := [
  ⟨some 65, .faddr 2 (.t 13), none⟩,
  ⟨some 66, .load 1 false (.t 65), none⟩,
  ⟨some 67, .bin .eql (.t 66) (.c (.int .i64 (.ofNat 1))), none⟩,
  ⟨some 68, .mv (.t 67), none⟩,
  ⟨some 69, .faddr 2 (.t 13), some (68, false)⟩,
  ⟨some 70, .load 1 false (.t 69), some (68, false)⟩,
  ⟨some 71, .bin .eql (.t 70) (.c (.int .i64 (.ofNat 2))), some (68, false)⟩,
  ⟨some 72, .pick (.t 68) (.c (.bool true)) (.t 71), none⟩,
  ⟨some 17, .mv (.t 72), none⟩]
@[simp] def f10r18 : List ROper := [
  ⟨some 74, .mv (.t 17), none⟩,
  ⟨some 75, .mv (.t 74), none⟩,
  ⟨some 76, .faddr 2 (.t 13), some (75, false)⟩,
  ⟨some 77, .load 1 false (.t 76), some (75, false)⟩,
  ⟨some 78, .bin .eql (.t 77) (.c (.int .i64 (.ofNat 3))), some (75, false)⟩,
  ⟨some 79, .pick (.t 75) (.c (.bool true)) (.t 78), none⟩,
  ⟨some 73, .mv (.t 79), none⟩]
@[simp] def f10r19 : List ROper := [
  ⟨some 80, .mv (.t 16), none⟩,
  ⟨some 81, .faddr 3 (.t 15), none⟩,
  ⟨some 82, .load 1 false (.t 81), none⟩,
  ⟨some 83, .call 30 [(.t 80), (.t 82)], none⟩,
  ⟨some 84, .faddr 1 (.t 14), none⟩,
  ⟨some 85, .load 1 false (.t 84), none⟩,
  ⟨some 86, .bin .add (.t 83) (.t 85), none⟩,
  ⟨some 87, .faddr 4 (.t 15), none⟩,
  ⟨none, .store 1 (.t 87) (.t 86), none⟩]
@[simp] def f10r20 : List ROper := [
  ⟨some 89, .faddr 2 (.t 13), none⟩,
  ⟨some 90, .load 1 false (.t 89), none⟩,
  ⟨some 91, .bin .eql (.t 90) (.c (.int .i64 (.ofNat 7))), none⟩,
  ⟨some 88, .mv (.t 91), none⟩]
@[simp] def f10r21 : List ROper := [
  ⟨some 92, .mv (.t 8), none⟩,
  ⟨some 93, .iaddr 1 (.t 92) (.c (.int .i64 (.ofNat 0))), none⟩,
  ⟨some 94, .load 1 false (.t 93), none⟩,
  ⟨some 95, .faddr 3 (.t 15), none⟩,
  ⟨some 96, .load 1 false (.t 95), none⟩,
  ⟨some 97, .call 31 [(.t 94), (.t 96)], none⟩,
  ⟨some 98, .faddr 4 (.t 15), none⟩,
  ⟨none, .store 1 (.t 98) (.t 97), none⟩]
@[simp] def f10r22 : List ROper := [
  ⟨some 99, .mv (.t 8), none⟩,
  ⟨some 100, .slice false 1 (.t 99) (some (.c (.int .i64 (.ofNat 1)))) none none, none⟩,
  ⟨some 8, .mv (.t 100), none⟩]
def f10K2 : RC := .block 2 (.seq (.region f10r18 [1, 7, 8, 9, 10, 11, 13, 14, 15, 16, 17, 34, 35, 36, 73]) (.cond (.t 73) (.dregion f10r19 [] [] [1, 7, 8, 9, 10, 11, 14, 15, 16, 17, 34, 35, 36]) (.seq (.region f10r20 [1, 7, 8, 9, 10, 11, 14, 15, 16, 17, 34, 35, 36, 88]) (.cond (.t 88) (.seq (.dregion f10r21 [] [] [1, 7, 8, 9, 10, 11, 14, 15, 16, 17, 34, 35, 36]) (.region f10r22 [1, 7, 8, 9, 10, 11, 14, 15, 16, 17, 34, 35, 36])) .skip))))
@[simp] def f10r23 : List ROper := [
  ⟨some 101, .mv (.t 17), none⟩,
  ⟨some 102, .mv (.t 101), none⟩,
  ⟨some 103, .faddr 2 (.t 14), some (102, true)⟩,
  ⟨some 104, .load 1 false (.t 103), some (102, true)⟩,
  ⟨some 105, .bin .eql (.t 104) (.c (.int .i64 (.ofNat 1))), some (102, true)⟩,
  ⟨some 106, .pick (.t 102) (.t 105) (.c (.bool false)), none⟩,
  ⟨some 107, .mv (.t 106), none⟩,
  ⟨some 108, .mv (.t 10), some (107, true)⟩,
  ⟨some 109, .pick (.t 107) (.t 108) (.c (.bool false)), none⟩,
  ⟨some 110, .mv (.t 109), none⟩,
  ⟨some 111, .mv (.t 9), some (110, true)⟩,
  ⟨some 112, .mv (.t 9), some (110, true)⟩,
  ⟨some 113, .len .slice (.t 112), some (110, true)⟩,
  ⟨some 114, .bin .sub (.t 113) (.c (.int .i64 (.ofNat 1))), some (110, true)⟩,
  ⟨some 115, .iaddr 6 (.t 111) (.t 114), some (110, true)⟩,
  ⟨some 116, .faddr 3 (.t 115), some (110, true)⟩,
  ⟨some 117, .load 1 false (.t 116), some (110, true)⟩,
  ⟨some 118, .faddr 3 (.t 15), some (110, true)⟩,
  ⟨some 119, .load 1 false (.t 118), some (110, true)⟩,
  ⟨some 120, .bin .eql (.t 117) (.t 119), some (110, true)⟩,
  ⟨some 121, .pick (.t 110) (.t 120) (.c (.bool false)), none⟩]
@[simp] def f10r24 : List ROper := [
  ⟨some 122, .mv (.t 11), none⟩,
  ⟨some 123, .mv (.t 16), none⟩,
  ⟨some 124, .faddr 3 (.t 15), none⟩,
  ⟨some 125, .load 1 false (.t 124), none⟩,
  ⟨some 126, .call 32 [(.t 122), (.t 123), (.t 125)], none⟩,
  ⟨some 127, .faddr 5 (.t 15), none⟩,
  ⟨none, .store 1 (.t 127) (.t 126), none⟩]
@[simp] def f10r25 : List ROper := [
  ⟨some 128, .mv (.t 17), none⟩,
  ⟨some 129, .mv (.t 128), none⟩,
  ⟨some 130, .faddr 2 (.t 14), some (129, true)⟩,
  ⟨some 131, .load 1 false (.t 130), some (129, true)⟩,
  ⟨some 132, .bin .eql (.t 131) (.c (.int .i64 (.ofNat 1))), some (129, true)⟩,
  ⟨some 133, .pick (.t 129) (.t 132) (.c (.bool false)), none⟩,
  ⟨some 134, .mv (.t 16), none⟩,
  ⟨some 10, .mv (.t 133), none⟩,
  ⟨some 11, .mv (.t 134), none⟩]
@[simp] def f10r26 : List ROper := [
  ⟨some 135, .mv (.t 9), none⟩,
  ⟨some 136, .load 6 true (.t 15), none⟩,
  ⟨some 137, .lit 6 true [(.int .i64 (.ofNat 0)), (.int .i64 (.ofNat 0)), (.int .i64 (.ofNat 0)), (.int .i64 (.ofNat 0)), (.int .i64 (.ofNat 0)), (.int .i64 (.ofNat 0))] 1 [(0, (.t 136))], none⟩,
  ⟨some 138, .append 6 true 48 (.t 135) (.t 137), none⟩,
  ⟨some 9, .mv (.t 138), none⟩]
@[simp] def f10r27 : List ROper := [
  ⟨some 139, .bin .add (.t 36) (.c (.int .i64 (.ofNat 1))), none⟩,
  ⟨some 36, .mv (.t 139), none⟩]
def f10B0 : RC := (.seq (.region f10r10 [1, 7, 8, 9, 10, 11, 34, 35, 36, 37]) (.seq (.cond (.t 37) .skip (.exit 0)) (.seq (.block 1 (.seq (.region f10r11 [1, 7, 8, 9, 10, 11, 13, 34, 35, 36]) (.seq (.region f10r12 [1, 7, 8, 9, 10, 11, 13, 14, 34, 35, 36]) (.seq (.region f10r13 [1, 7, 8, 9, 10, 11, 13, 14, 15, 34, 35, 36]) (.seq (.seq (.region f10r14 [1, 7, 8, 9, 10, 11, 13, 14, 15, 34, 35, 36, 55]) (.cond (.t 55) (.region f10r15 [1, 7, 8, 9, 10, 11, 13, 14, 15, 34, 35, 36]) .skip)) (.seq (.region f10r16 [1, 7, 8, 9, 10, 11, 13, 14, 15, 16, 34, 35, 36]) (.seq (.region f10r17 [1, 7, 8, 9, 10, 11, 13, 14, 15, 16, 17, 34, 35, 36]) (.seq f10K2 (.seq (.seq (.dregion f10r23 [] [] [1, 7, 8, 9, 11, 14, 15, 16, 17, 34, 35, 36, 121]) (.cond (.t 121) (.region f10r24 [1, 7, 8, 9, 14, 15, 16, 17, 34, 35, 36]) .skip)) (.seq (.region f10r25 [1, 7, 8, 9, 10, 11, 15, 34, 35, 36]) (.region f10r26 [1, 7, 8, 9, 10, 11, 34, 35, 36]))))))))))) (.region f10r27 [1, 7, 8, 9, 10, 11, 34, 35, 36]))))
def f10L0 : RC := .loop [1, 7, 8, 9, 10, 11, 34, 35, 36] f10B0
@[simp] def f10r28 : List ROper := [
  ⟨some 140, .mv (.t 9), none⟩,
  ⟨some 2, .mv (.t 140), none⟩,
  ⟨some 3, .mv (.c (.int .i64 (.ofNat 0))), none⟩]
def f10 : RFunc := ⟨[.t 2, .t 3], (.seq (.region f10r0 [1]) (.seq (.seq (.region f10r1 [1, 4]) (.seq (.region f10r2 [1, 4, 21]) (.cond (.t 21) (.seq (.region f10r3 [2, 3]) .ret) .skip))) (.seq (.region f10r4 [1, 5]) (.seq (.region f10r5 [1, 5, 7]) (.seq (.region f10r6 [1, 5, 7, 8]) (.seq (.region f10r7 [1, 5, 7, 8, 9]) (.seq (.region f10r8 [1, 5, 7, 8, 9, 10, 11]) (.seq (.seq (.region f10r9 [1, 7, 8, 9, 10, 11, 34, 35, 36]) (.block 0 f10L0)) (.seq (.region f10r28 [2, 3]) .ret))))))))), true⟩

/-! quire/quireref07.Masses -/
@[simp] def f11r0 : List ROper := [
  ⟨some 1, .box 21 (.t 0), none⟩,
  ⟨some 2, .mv (.c (.list 0 0 .no false [])), none⟩,
  ⟨some 3, .mv (.c (.int .i64 (.ofNat 0))), none⟩]
@[simp] def f11r1 : List ROper := [
  ⟨some 13, .load 21 true (.t 1), none⟩,
  ⟨some 14, .call 14 [(.t 13)], none⟩,
  ⟨some 4, .mv (.t 14), none⟩]
@[simp] def f11r2 : List ROper := [
  ⟨some 15, .mv (.t 4), none⟩,
  ⟨some 16, .bin .neq (.t 15) (.c (.int .i64 (.ofNat 0))), none⟩]
@[simp] def f11r3 : List ROper := [
  ⟨some 17, .mv (.t 4), none⟩,
  ⟨some 2, .mv (.c (.list 0 0 .no false [])), none⟩,
  ⟨some 3, .mv (.t 17), none⟩]
@[simp] def f11r4 : List ROper := [
  ⟨some 19, .faddr 0 (.t 1), none⟩,
  ⟨some 20, .load 1 false (.t 19), none⟩,
  ⟨some 21, .call 33 [(.t 20)], none⟩,
  ⟨some 18, .mv (.t 21), none⟩,
  ⟨some 22, .extract (.t 18) 0, none⟩,
  ⟨some 23, .extract (.t 18) 1, none⟩,
  ⟨some 5, .mv (.t 22), none⟩,
  ⟨some 6, .mv (.t 23), none⟩]
@[simp] def f11r5 : List ROper := [
  ⟨some 7, .mv (.c (.list 0 0 .no false [])), none⟩]
@[simp] def f11r6 : List ROper := [
  ⟨some 8, .mv (.c (.int .i64 (.ofNat 0))), none⟩]
@[simp] def f11r7 : List ROper := [
  ⟨some 9, .mv (.c (.int .i64 (.ofNat 0))), none⟩]
@[simp] def f11r8 : List ROper := [
  ⟨some 24, .mv (.t 9), none⟩,
  ⟨some 25, .mv (.t 5), none⟩,
  ⟨some 26, .len .slice (.t 25), none⟩,
  ⟨some 27, .bin .lss (.t 24) (.t 26), none⟩]
@[simp] def f11r9 : List ROper := [
  ⟨some 30, .mv (.t 5), none⟩,
  ⟨some 31, .mv (.t 9), none⟩,
  ⟨some 32, .iaddr 3 (.t 30) (.t 31), none⟩,
  ⟨some 33, .load 3 true (.t 32), none⟩,
  ⟨some 10, .alloc [(.int .i64 (.ofNat 0)), (.int .i64 (.ofNat 0)), (.int .i64 (.ofNat 0))], none⟩,
  ⟨none, .store 3 (.t 10) (.t 33), none⟩]
@[simp] def f11r10 : List ROper := [
  ⟨some 34, .faddr 0 (.t 10), none⟩,
  ⟨some 35, .load 1 false (.t 34), none⟩,
  ⟨some 36, .faddr 1 (.t 10), none⟩,
  ⟨some 37, .load 1 false (.t 36), none⟩,
  ⟨some 38, .faddr 2 (.t 10), none⟩,
  ⟨some 39, .load 1 false (.t 38), none⟩,
  ⟨some 40, .load 21 true (.t 1), none⟩,
  ⟨some 41, .faddr 0 (.t 10), none⟩,
  ⟨some 42, .load 1 false (.t 41), none⟩,
  ⟨some 43, .call 34 [(.t 40), (.t 42)], none⟩,
  ⟨some 44, .build [(.int .i64 (.ofNat 0)), (.int .i64 (.ofNat 0)), (.int .i64 (.ofNat 0)), (.int .i64 (.ofNat 0)), (.int .i64 (.ofNat 0)), (.int .i64 (.ofNat 0))] [(0, 1, (.t 35)), (1, 1, (.t 37)), (2, 1, (.t 39)), (3, 1, (.t 43))], none⟩,
  ⟨some 11, .alloc [(.int .i64 (.ofNat 0)), (.int .i64 (.ofNat 0)), (.int .i64 (.ofNat 0)), (.int .i64 (.ofNat 0)), (.int .i64 (.ofNat 0)), (.int .i64 (.ofNat 0))], none⟩,
  ⟨none, .store 6 (.t 11) (.t 44), none⟩]
@[simp] def f11r11 : List ROper := [
  ⟨some 45, .load 21 true (.t 1), none⟩,
  ⟨some 46, .faddr 0 (.t 10), none⟩,
  ⟨some 47, .load 1 false (.t 46), none⟩,
  ⟨some 48, .call 35 [(.t 45), (.t 47)], none⟩,
  ⟨some 12, .alloc [(.int .i64 (.ofNat 0)), (.int .i64 (.ofNat 0)), (.int .i64 (.ofNat 0))], none⟩,
  ⟨none, .store 3 (.t 12) (.t 48), none⟩]
@[simp] def f11r12 : List ROper := [
  ⟨some 49, .faddr 2 (.t 10), none⟩,
  ⟨some 50, .load 1 false (.t 49), none⟩,
  ⟨some 51, .call 36 [(.t 50)], none⟩,
  ⟨some 52, .mv (.t 51), none⟩,
  ⟨some 53, .faddr 2 (.t 10), some (52, false)⟩,
  ⟨some 54, .load 1 false (.t 53), some (52, false)⟩,
  ⟨some 55, .bin .eql (.t 54) (.c (.int .i64 (.ofNat 3))), some (52, false)⟩,
  ⟨some 56, .pick (.t 52) (.c (.bool true)) (.t 55), none⟩]
@[simp] def f11r13 : List ROper := [
  ⟨some 57, .faddr 0 (.t 1), none⟩,
  ⟨some 58, .load 1 false (.t 57), none⟩,
  ⟨some 59, .faddr 0 (.t 10), none⟩,
  ⟨some 60, .load 1 false (.t 59), none⟩,
  ⟨some 61, .index (.t 58) (.t 60), none⟩,
  ⟨some 62, .faddr 3 (.t 11), none⟩,
  ⟨some 63, .load 1 false (.t 62), none⟩,
  ⟨some 64, .call 37 [(.t 61), (.t 63)], none⟩,
  ⟨some 65, .faddr 1 (.t 12), none⟩,
  ⟨some 66, .load 1 false (.t 65), none⟩,
  ⟨some 67, .bin .add (.t 64) (.t 66), none⟩,
  ⟨some 68, .faddr 4 (.t 11), none⟩,
  ⟨none, .store 1 (.t 68) (.t 67), none⟩]
@[simp] def f11r14 : List ROper := [
  ⟨some 69, .faddr 2 (.t 10), none⟩,
  ⟨some 70, .load 1 false (.t 69), none⟩,
  ⟨some 71, .bin .eql (.t 70) (.c (.int .i64 (.ofNat 7))), none⟩]
@[simp] def f11r15 : List ROper := [
  ⟨some 72, .faddr 20 (.t 1), none⟩,
  ⟨some 73, .load 1 false (.t 72), none⟩,
  ⟨some 74, .mv (.t 8), none⟩,
  ⟨some 75, .iaddr 1 (.t 73) (.t 74), none⟩,
  ⟨some 76, .load 1 false (.t 75), none⟩,
  ⟨some 77, .faddr 3 (.t 11), none⟩,
  ⟨some 78, .load 1 false (.t 77), none⟩,
  ⟨some 79, .call 38 [(.t 76), (.t 78)], none⟩,
  ⟨some 80, .faddr 4 (.t 11), none⟩,
  ⟨none, .store 1 (.t 80) (.t 79), none⟩]
@[simp] def f11r16 : List ROper := [
  ⟨some 81, .mv (.t 8), none⟩,
  ⟨some 82, .bin .add (.t 81) (.c (.int .i64 (.ofNat 1))), none⟩,
  ⟨some 8, .mv (.t 82), none⟩]
@[simp] def f11r17 : List ROper := [
  ⟨some 83, .mv (.t 9), none⟩,
  ⟨some 84, .bin .gtr (.t 83) (.c (.int .i64 (.ofNat 0))), none⟩,
  ⟨some 85, .mv (.t 84), none⟩,
  ⟨some 86, .faddr 2 (.t 10), some (85, true)⟩,
  ⟨some 87, .load 1 false (.t 86), some (85, true)⟩,
  ⟨some 88, .call 36 [(.t 87)], some (85, true)⟩,
  ⟨some 89, .pick (.t 85) (.t 88) (.c (.bool false)), none⟩,
  ⟨some 90, .mv (.t 89), none⟩,
  ⟨some 91, .mv (.t 5), some (90, true)⟩,
  ⟨some 92, .mv (.t 9), some (90, true)⟩,
  ⟨some 93, .bin .sub (.t 92) (.c (.int .i64 (.ofNat 1))), some (90, true)⟩,
  ⟨some 94, .iaddr 3 (.t 91) (.t 93), some (90, true)⟩,
  ⟨some 95, .faddr 2 (.t 94), some (90, true)⟩,
  ⟨some 96, .load 1 false (.t 95), some (90, true)⟩,
  ⟨some 97, .call 36 [(.t 96)], some (90, true)⟩,
  ⟨some 98, .pick (.t 90) (.t 97) (.c (.bool false)), none⟩,
  ⟨some 99, .mv (.t 98), none⟩,
  ⟨some 100, .faddr 2 (.t 12), some (99, true)⟩,
  ⟨some 101, .load 1 false (.t 100), some (99, true)⟩,
  ⟨some 102, .bin .eql (.t 101) (.c (.int .i64 (.ofNat 1))), some (99, true)⟩,
  ⟨some 103, .pick (.t 99) (.t 102) (.c (.bool false)), none⟩,
  ⟨some 104, .mv (.t 103), none⟩,
  ⟨some 105, .load 21 true (.t 1), some (104, true)⟩,
  ⟨some 106, .mv (.t 5), some (104, true)⟩,
  ⟨some 107, .mv (.t 9), some (104, true)⟩,
  ⟨some 108, .bin .sub (.t 107) (.c (.int .i64 (.ofNat 1))), some (104, true)⟩,
  ⟨some 109, .iaddr 3 (.t 106) (.t 108), some (104, true)⟩,
  ⟨some 110, .faddr 0 (.t 109), some (104, true)⟩,
  ⟨some 111, .load 1 false (.t 110), some (104, true)⟩,
  ⟨some 112, .call 35 [(.t 105), (.t 111)], some (104, true)⟩,
  ⟨some 113, .field 1 false 2 (.t 112), some (104, true)⟩,
  ⟨some 114, .bin .eql (.t 113) (.c (.int .i64 (.ofNat 1))), some (104, true)⟩,
  ⟨some 115, .pick (.t 104) (.t 114) (.c (.bool false)), none⟩,
  ⟨some 116, .mv (.t 115), none⟩,
  ⟨some 117, .mv (.t 7), some (116, true)⟩,
  ⟨some 118, .mv (.t 9), some (116, true)⟩,
  ⟨some 119, .bin .sub (.t 118) (.c (.int .i64 (.ofNat 1))), some (116, true)⟩,
  ⟨some 120, .iaddr 6 (.t 117) (.t 119), some (116, true)⟩,
  ⟨some 121, .faddr 3 (.t 120), some (116, true)⟩,
  ⟨some 122, .load 1 false (.t 121), some (116, true)⟩,
  ⟨some 123, .faddr 3 (.t 11), some (116, true)⟩,
  ⟨some 124, .load 1 false (.t 123), some (116, true)⟩,
  ⟨some 125, .bin .eql (.t 122) (.t 124), some (116, true)⟩,
  ⟨some 126, .pick (.t 116) (.t 125) (.c (.bool false)), none⟩]
@[simp] def f11r18 : List ROper := [
  ⟨some 127, .faddr 0 (.t 1), none⟩,
  ⟨some 128, .load 1 false (.t 127), none⟩,
  ⟨some 129, .mv (.t 5), none⟩,
  ⟨some 130, .mv (.t 9), none⟩,
  ⟨some 131, .bin .sub (.t 130) (.c (.int .i64 (.ofNat 1))), none⟩,
  ⟨some 132, .iaddr 3 (.t 129) (.t 131), none⟩,
  ⟨some 133, .faddr 0 (.t 132), none⟩,
  ⟨some 134, .load 1 false (.t 133), none⟩,
  ⟨some 135, .index (.t 128) (.t 134), none⟩,
  ⟨some 136, .faddr 0 (.t 1), none⟩,
  ⟨some 137, .load 1 false (.t 136), none⟩,
  ⟨some 138, .faddr 0 (.t 10), none⟩,
  ⟨some 139, .load 1 false (.t 138), none⟩,
  ⟨some 140, .index (.t 137) (.t 139), none⟩,
  ⟨some 141, .faddr 3 (.t 11), none⟩,
  ⟨some 142, .load 1 false (.t 141), none⟩,
  ⟨some 143, .call 39 [(.t 135), (.t 140), (.t 142)], none⟩,
  ⟨some 144, .faddr 5 (.t 11), none⟩,
  ⟨none, .store 1 (.t 144) (.t 143), none⟩]
@[simp] def f11r19 : List ROper := [
  ⟨some 145, .mv (.t 7), none⟩,
  ⟨some 146, .load 6 true (.t 11), none⟩,
  ⟨some 147, .lit 6 true [(.int .i64 (.ofNat 0)), (.int .i64 (.ofNat 0)), (.int .i64 (.ofNat 0)), (.int .i64 (.ofNat 0)), (.int .i64 (.ofNat 0)), (.int .i64 (.ofNat 0))] 1 [(0, (.t 146))], none⟩,
  ⟨some 148, .append 6 true 48 (.t 145) (.t 147), none⟩,
  ⟨some 7, .mv (.t 148), none⟩]
@[simp] def f11r20 : List ROper := [
  ⟨some 28, .mv (.t 9), none⟩,
  ⟨some 29, .bin .add (.t 28) (.c (.int .i64 (.ofNat 1))), none⟩,
  ⟨some 9, .mv (.t 29), none⟩]
def f11B0 : RC := (.seq (.seq (.region f11r8 [1, 5, 7, 8, 9, 27]) (.cond (.t 27) .skip (.exit 0))) (.seq (.block 1 (.seq (.region f11r9 [1, 5, 7, 8, 9, 10]) (.seq (.dregion f11r10 [] [(1, [1]), (3, [1]), (5, [1]), (6, [1]), (8, [1]), (9, [1])] [1, 5, 7, 8, 9, 10, 11]) (.seq (.region f11r11 [1, 5, 7, 8, 9, 10, 11, 12]) (.seq (.seq (.region f11r12 [1, 5, 7, 8, 9, 10, 11, 12, 56]) (.cond (.t 56) (.dregion f11r13 [] [] [1, 5, 7, 8, 9, 10, 11, 12]) .skip)) (.seq (.seq (.region f11r14 [1, 5, 7, 8, 9, 10, 11, 12, 71]) (.cond (.t 71) (.seq (.dregion f11r15 [] [] [1, 5, 7, 8, 9, 10, 11, 12]) (.region f11r16 [1, 5, 7, 8, 9, 10, 11, 12])) .skip)) (.seq (.seq (.dregion f11r17 [] [] [1, 5, 7, 8, 9, 10, 11, 126]) (.cond (.t 126) (.dregion f11r18 [] [] [1, 5, 7, 8, 9, 11]) .skip)) (.region f11r19 [1, 5, 7, 8, 9])))))))) (.region f11r20 [1, 5, 7, 8, 9])))
def f11L0 : RC := .loop [1, 5, 7, 8, 9] f11B0
@[simp] def f11r21 : List ROper := [
  ⟨some 149, .mv (.t 7), none⟩,
  ⟨some 2, .mv (.t 149), none⟩,
  ⟨some 3, .mv (.c (.int .i64 (.ofNat 0))), none⟩]
def f11 : RFunc := ⟨[.t 2, .t 3], (.seq (.region f11r0 [1]) (.seq (.region f11r1 [1, 4]) (.seq (.seq (.region f11r2 [1, 4, 16]) (.cond (.t 16) (.seq (.region f11r3 [2, 3]) .ret) .skip)) (.seq (.region f11r4 [1, 5]) (.seq (.region f11r5 [1, 5, 7]) (.seq (.region f11r6 [1, 5, 7, 8]) (.seq (.seq (.region f11r7 [1, 5, 7, 8, 9]) (.block 0 f11L0)) (.seq (.region f11r21 [2, 3]) .ret)))))))), true⟩

/-! quire/quirekit.SameMasses -/
@[simp] def f12r0 : List ROper := [
  ⟨some 4, .mv (.c (.bool false)), none⟩]
@[simp] def f12r1 : List ROper := [
  ⟨some 6, .mv (.t 0), none⟩,
  ⟨some 7, .len .slice (.t 6), none⟩,
  ⟨some 8, .mv (.t 1), none⟩,
  ⟨some 9, .len .slice (.t 8), none⟩,
  ⟨some 10, .bin .neq (.t 7) (.t 9), none⟩]
@[simp] def f12r2 : List ROper := [
  ⟨some 4, .mv (.c (.bool false)), none⟩]
@[simp] def f12r3 : List ROper := [
  ⟨some 5, .mv (.c (.int .i64 (.ofNat 0))), none⟩]
@[simp] def f12r4 : List ROper := [
  ⟨some 11, .mv (.t 5), none⟩,
  ⟨some 12, .mv (.t 0), none⟩,
  ⟨some 13, .len .slice (.t 12), none⟩,
  ⟨some 14, .bin .lss (.t 11) (.t 13), none⟩]
@[simp] def f12r5 : List ROper := [
  ⟨some 17, .mv (.t 0), none⟩,
  ⟨some 18, .mv (.t 5), none⟩,
  ⟨some 19, .iaddr 6 (.t 17) (.t 18), none⟩,
  ⟨some 20, .load 6 true (.t 19), none⟩,
  ⟨some 21, .mv (.t 1), none⟩,
  ⟨some 22, .mv (.t 5), none⟩,
  ⟨some 23, .iaddr 6 (.t 21) (.t 22), none⟩,
  ⟨some 24, .load 6 true (.t 23), none⟩,
  ⟨some 25, .eq (.agg [.int, .int, .int, .int, .int, .int]) true (.t 20) (.t 24), none⟩]
@[simp] def f12r6 : List ROper := [
  ⟨some 4, .mv (.c (.bool false)), none⟩]
@[simp] def f12r7 : List ROper := [
  ⟨some 15, .mv (.t 5), none⟩,
  ⟨some 16, .bin .add (.t 15) (.c (.int .i64 (.ofNat 1))), none⟩,
  ⟨some 5, .mv (.t 16), none⟩]
def f12B0 : RC := (.seq (.seq (.region f12r4 [0, 1, 5, 14]) (.cond (.t 14) .skip (.exit 0))) (.seq (.block 1 (.seq (.dregion f12r5 [] [] [0, 1, 5, 25]) (.cond (.t 25) (.seq (.region f12r6 [4]) .ret) .skip))) (.region f12r7 [0, 1, 5])))
def f12L0 : RC := .loop [0, 1, 5] f12B0
@[simp] def f12r8 : List ROper := [
  ⟨some 4, .mv (.c (.bool true)), none⟩]
def f12 : RFunc := ⟨[.t 4], (.seq (.region f12r0 [0, 1]) (.seq (.seq (.region f12r1 [0, 1, 10]) (.cond (.t 10) (.seq (.region f12r2 [4]) .ret) .skip)) (.seq (.seq (.region f12r3 [0, 1, 5]) (.block 0 f12L0)) (.seq (.region f12r8 [4]) .ret)))), true⟩

/-! quire/metric.Check -/
@[simp] def f13r0 : List ROper := [
  ⟨some 1, .box 21 (.t 0), none⟩,
  ⟨some 2, .mv (.c (.int .i64 (.ofNat 0))), none⟩]
@[simp] def f13r1 : List ROper := [
  ⟨some 8, .faddr 0 (.t 1), none⟩,
  ⟨some 9, .load 1 false (.t 8), none⟩,
  ⟨some 10, .call 27 [(.t 9)], none⟩,
  ⟨some 7, .mv (.t 10), none⟩,
  ⟨some 11, .extract (.t 7) 0, none⟩,
  ⟨some 12, .extract (.t 7) 1, none⟩,
  ⟨some 3, .mv (.t 11), none⟩,
  ⟨some 4, .mv (.t 12), none⟩]
@[simp] def f13r2 : List ROper := [
  ⟨some 13, .mv (.t 4), none⟩,
  ⟨some 14, .bin .neq (.t 13) (.c (.int .i64 (.ofNat 0))), none⟩]
@[simp] def f13r3 : List ROper := [
  ⟨some 15, .mv (.t 4), none⟩,
  ⟨some 2, .mv (.t 15), none⟩]
@[simp] def f13r4 : List ROper := [
  ⟨some 16, .faddr 0 (.t 1), none⟩,
  ⟨some 17, .load 1 false (.t 16), none⟩,
  ⟨some 18, .call 40 [(.t 17), (.c (.int .u8 (.ofNat 3)))], none⟩,
  ⟨some 19, .bin .geq (.t 18) (.c (.int .i64 (.ofNat 0))), none⟩]
@[simp] def f13r5 : List ROper := [
  ⟨some 2, .mv (.c (.int .i64 (.ofNat 4))), none⟩]
@[simp] def f13r6 : List ROper := [
  ⟨some 20, .faddr 1 (.t 1), none⟩,
  ⟨some 21, .load 1 false (.t 20), none⟩,
  ⟨some 22, .faddr 0 (.t 1), none⟩,
  ⟨some 23, .load 1 false (.t 22), none⟩,
  ⟨some 24, .len .str (.t 23), none⟩,
  ⟨some 25, .call 41 [(.t 21), (.t 24)], none⟩,
  ⟨some 26, .un .not (.t 25), none⟩,
  ⟨some 27, .mv (.t 26), none⟩,
  ⟨some 28, .faddr 2 (.t 1), some (27, false)⟩,
  ⟨some 29, .load 17 true (.t 28), some (27, false)⟩,
  ⟨some 30, .call 42 [(.t 29)], some (27, false)⟩,
  ⟨some 31, .un .not (.t 30), some (27, false)⟩,
  ⟨some 32, .pick (.t 27) (.c (.bool true)) (.t 31), none⟩,
  ⟨some 33, .mv (.t 32), none⟩,
  ⟨some 34, .faddr 19 (.t 1), some (33, false)⟩,
  ⟨some 35, .load 1 false (.t 34), some (33, false)⟩,
  ⟨some 36, .call 43 [(.t 35), (.c (.int .i64 (.ofNat 16)))], some (33, false)⟩,
  ⟨some 37, .un .not (.t 36), some (33, false)⟩,
  ⟨some 38, .pick (.t 33) (.c (.bool true)) (.t 37), none⟩,
  ⟨some 39, .mv (.t 38), none⟩,
  ⟨some 40, .faddr 20 (.t 1), some (39, false)⟩,
  ⟨some 41, .load 1 false (.t 40), some (39, false)⟩,
  ⟨some 42, .len .slice (.t 41), some (39, false)⟩,
  ⟨some 43, .faddr 0 (.t 1), some (39, false)⟩,
  ⟨some 44, .load 1 false (.t 43), some (39, false)⟩,
  ⟨some 45, .call 44 [(.t 44), (.c (.str [2]))], some (39, false)⟩,
  ⟨some 46, .bin .neq (.t 42) (.t 45), some (39, false)⟩,
  ⟨some 47, .pick (.t 39) (.c (.bool true)) (.t 46), none⟩]
@[simp] def f13r7 : List ROper := [
  ⟨some 2, .mv (.c (.int .i64 (.ofNat 2))), none⟩]
@[simp] def f13r8 : List ROper := [
  ⟨some 48, .faddr 20 (.t 1), none⟩,
  ⟨some 49, .load 1 false (.t 48), none⟩,
  ⟨some 50, .len .slice (.t 49), none⟩,
  ⟨some 51, .mv (.c (.int .i64 (.ofNat 0))), none⟩]
@[simp] def f13r9 : List ROper := [
  ⟨some 52, .bin .lss (.t 51) (.t 50), none⟩]
@[simp] def f13r10 : List ROper := [
  ⟨some 53, .iaddr 1 (.t 49) (.t 51), none⟩,
  ⟨some 54, .load 1 false (.t 53), none⟩,
  ⟨some 6, .mv (.t 54), none⟩]
@[simp] def f13r11 : List ROper := [
  ⟨some 55, .mv (.t 6), none⟩,
  ⟨some 56, .bin .eql (.t 55) (.c (.str [])), none⟩,
  ⟨some 57, .mv (.t 56), none⟩,
  ⟨some 58, .mv (.t 6), some (57, false)⟩,
  ⟨some 59, .call 43 [(.t 58), (.c (.int .i64 (.ofNat 8)))], some (57, false)⟩,
  ⟨some 60, .un .not (.t 59), some (57, false)⟩,
  ⟨some 61, .pick (.t 57) (.c (.bool true)) (.t 60), none⟩]
@[simp] def f13r12 : List ROper := [
  ⟨some 2, .mv (.c (.int .i64 (.ofNat 2))), none⟩]
@[simp] def f13r13 : List ROper := [
  ⟨some 62, .bin .add (.t 51) (.c (.int .i64 (.ofNat 1))), none⟩,
  ⟨some 51, .mv (.t 62), none⟩]
def f13B0 : RC := (.seq (.region f13r9 [49, 50, 51, 52]) (.seq (.cond (.t 52) .skip (.exit 0)) (.seq (.block 1 (.seq (.region f13r10 [6, 49, 50, 51]) (.seq (.region f13r11 [49, 50, 51, 61]) (.cond (.t 61) (.seq (.region f13r12 [2]) .ret) .skip)))) (.region f13r13 [49, 50, 51]))))
def f13L0 : RC := .loop [49, 50, 51] f13B0
@[simp] def f13r14 : List ROper := [
  ⟨some 2, .mv (.c (.int .i64 (.ofNat 0))), none⟩]
def f13 : RFunc := ⟨[.t 2], (.seq (.region f13r0 [1]) (.seq (.seq (.region f13r1 [1, 4]) (.seq (.region f13r2 [1, 4, 14]) (.cond (.t 14) (.seq (.region f13r3 [2]) .ret) .skip))) (.seq (.seq (.region f13r4 [1, 19]) (.cond (.t 19) (.seq (.region f13r5 [2]) .ret) .skip)) (.seq (.seq (.dregion f13r6 [] [] [1, 47]) (.cond (.t 47) (.seq (.region f13r7 [2]) .ret) .skip)) (.seq (.seq (.region f13r8 [49, 50, 51]) (.block 0 f13L0)) (.seq (.region f13r14 [2]) .ret)))))), true⟩

/-! quire/quireref07.Check -/
@[simp] def f14r0 : List ROper := [
  ⟨some 1, .box 21 (.t 0), none⟩,
  ⟨some 2, .mv (.c (.int .i64 (.ofNat 0))), none⟩]
@[simp] def f14r1 : List ROper := [
  ⟨some 10, .faddr 0 (.t 1), none⟩,
  ⟨some 11, .load 1 false (.t 10), none⟩,
  ⟨some 12, .call 45 [(.t 11)], none⟩,
  ⟨some 3, .mv (.t 12), none⟩]
@[simp] def f14r2 : List ROper := [
  ⟨some 13, .mv (.t 3), none⟩,
  ⟨some 14, .bin .neq (.t 13) (.c (.int .i64 (.ofNat 0))), none⟩]
@[simp] def f14r3 : List ROper := [
  ⟨some 15, .mv (.t 3), none⟩,
  ⟨some 2, .mv (.t 15), none⟩]
@[simp] def f14r4 : List ROper := [
  ⟨some 4, .mv (.c (.int .i64 (.ofNat 0))), none⟩]
@[simp] def f14r5 : List ROper := [
  ⟨some 5, .mv (.c (.int .i64 (.ofNat 0))), none⟩]
@[simp] def f14r6 : List ROper := [
  ⟨some 16, .mv (.t 5), none⟩,
  ⟨some 17, .faddr 0 (.t 1), none⟩,
  ⟨some 18, .load 1 false (.t 17), none⟩,
  ⟨some 19, .len .str (.t 18), none⟩,
  ⟨some 20, .bin .lss (.t 16) (.t 19), none⟩]
@[simp] def f14r7 : List ROper := [
  ⟨some 23, .faddr 0 (.t 1), none⟩,
  ⟨some 24, .load 1 false (.t 23), none⟩,
  ⟨some 25, .mv (.t 5), none⟩,
  ⟨some 26, .index (.t 24) (.t 25), none⟩,
  ⟨some 27, .bin .eql (.t 26) (.c (.int .u8 (.ofNat 3))), none⟩]
@[simp] def f14r8 : List ROper := [
  ⟨some 2, .mv (.c (.int .i64 (.ofNat 4))), none⟩]
@[simp] def f14r9 : List ROper := [
  ⟨some 28, .faddr 0 (.t 1), none⟩,
  ⟨some 29, .load 1 false (.t 28), none⟩,
  ⟨some 30, .mv (.t 5), none⟩,
  ⟨some 31, .index (.t 29) (.t 30), none⟩,
  ⟨some 32, .bin .eql (.t 31) (.c (.int .u8 (.ofNat 2))), none⟩]
@[simp] def f14r10 : List ROper := [
  ⟨some 33, .mv (.t 4), none⟩,
  ⟨some 34, .bin .add (.t 33) (.c (.int .i64 (.ofNat 1))), none⟩,
  ⟨some 4, .mv (.t 34), none⟩]
@[simp] def f14r11 : List ROper := [
  ⟨some 21, .mv (.t 5), none⟩,
  ⟨some 22, .bin .add (.t 21) (.c (.int .i64 (.ofNat 1))), none⟩,
  ⟨some 5, .mv (.t 22), none⟩]
def f14B0 : RC := (.seq (.seq (.region f14r6 [1, 4, 5, 20]) (.cond (.t 20) .skip (.exit 0))) (.seq (.block 1 (.seq (.seq (.region f14r7 [1, 4, 5, 27]) (.cond (.t 27) (.seq (.region f14r8 [2]) .ret) .skip)) (.seq (.region f14r9 [1, 4, 5, 32]) (.cond (.t 32) (.region f14r10 [1, 4, 5]) .skip)))) (.region f14r11 [1, 4, 5])))
def f14L0 : RC := .loop [1, 4, 5] f14B0
@[simp] def f14r12 : List ROper := [
  ⟨some 35, .faddr 0 (.t 1), none⟩,
  ⟨some 36, .load 1 false (.t 35), none⟩,
  ⟨some 37, .len .str (.t 36), none⟩,
  ⟨some 6, .mv (.t 37), none⟩]
@[simp] def f14r13 : List ROper := [
  ⟨some 7, .mv (.c (.int .i64 (.ofNat 0))), none⟩]
@[simp] def f14r14 : List ROper := [
  ⟨some 38, .mv (.t 7), none⟩,
  ⟨some 39, .faddr 1 (.t 1), none⟩,
  ⟨some 40, .load 1 false (.t 39), none⟩,
  ⟨some 41, .len .slice (.t 40), none⟩,
  ⟨some 42, .bin .lss (.t 38) (.t 41), none⟩]
@[simp] def f14r15 : List ROper := [
  ⟨some 45, .faddr 1 (.t 1), none⟩,
  ⟨some 46, .load 1 false (.t 45), none⟩,
  ⟨some 47, .mv (.t 7), none⟩,
  ⟨some 48, .iaddr 4 (.t 46) (.t 47), none⟩,
  ⟨some 49, .load 4 true (.t 48), none⟩,
  ⟨some 8, .alloc [(.int .i64 (.ofNat 0)), (.int .i64 (.ofNat 0)), (.int .i64 (.ofNat 0)), (.int .i64 (.ofNat 0))], none⟩,
  ⟨none, .store 4 (.t 8) (.t 49), none⟩]
@[simp] def f14r16 : List ROper := [
  ⟨some 50, .faddr 0 (.t 8), none⟩,
  ⟨some 51, .load 1 false (.t 50), none⟩,
  ⟨some 52, .bin .lss (.t 51) (.c (.int .i64 (.ofNat 1))), none⟩,
  ⟨some 53, .mv (.t 52), none⟩,
  ⟨some 54, .faddr 0 (.t 8), some (53, false)⟩,
  ⟨some 55, .load 1 false (.t 54), some (53, false)⟩,
  ⟨some 56, .mv (.t 6), some (53, false)⟩,
  ⟨some 57, .bin .gtr (.t 55) (.t 56), some (53, false)⟩,
  ⟨some 58, .pick (.t 53) (.c (.bool true)) (.t 57), none⟩,
  ⟨some 59, .mv (.t 58), none⟩,
  ⟨some 60, .faddr 1 (.t 8), some (59, false)⟩,
  ⟨some 61, .load 3 true (.t 60), some (59, false)⟩,
  ⟨some 62, .call 46 [(.t 61)], some (59, false)⟩,
  ⟨some 63, .un .not (.t 62), some (59, false)⟩,
  ⟨some 64, .pick (.t 59) (.c (.bool true)) (.t 63), none⟩]
@[simp] def f14r17 : List ROper := [
  ⟨some 2, .mv (.c (.int .i64 (.ofNat 2))), none⟩]
@[simp] def f14r18 : List ROper := [
  ⟨some 65, .mv (.t 6), none⟩,
  ⟨some 66, .faddr 0 (.t 8), none⟩,
  ⟨some 67, .load 1 false (.t 66), none⟩,
  ⟨some 68, .bin .sub (.t 65) (.t 67), none⟩,
  ⟨some 6, .mv (.t 68), none⟩]
@[simp] def f14r19 : List ROper := [
  ⟨some 43, .mv (.t 7), none⟩,
  ⟨some 44, .bin .add (.t 43) (.c (.int .i64 (.ofNat 1))), none⟩,
  ⟨some 7, .mv (.t 44), none⟩]
def f14B1 : RC := (.seq (.seq (.region f14r14 [1, 4, 6, 7, 42]) (.cond (.t 42) .skip (.exit 2))) (.seq (.block 3 (.seq (.region f14r15 [1, 4, 6, 7, 8]) (.seq (.seq (.region f14r16 [1, 4, 6, 7, 8, 64]) (.cond (.t 64) (.seq (.region f14r17 [2]) .ret) .skip)) (.region f14r18 [1, 4, 6, 7])))) (.region f14r19 [1, 4, 6, 7])))
def f14L1 : RC := .loop [1, 4, 6, 7] f14B1
@[simp] def f14r20 : List ROper := [
  ⟨some 69, .mv (.t 6), none⟩,
  ⟨some 70, .bin .gtr (.t 69) (.c (.int .i64 (.ofNat 0))), none⟩,
  ⟨some 71, .mv (.t 70), none⟩,
  ⟨some 72, .faddr 2 (.t 1), some (71, false)⟩,
  ⟨some 73, .load 17 true (.t 72), some (71, false)⟩,
  ⟨some 74, .call 47 [(.t 73)], some (71, false)⟩,
  ⟨some 75, .un .not (.t 74), some (71, false)⟩,
  ⟨some 76, .pick (.t 71) (.c (.bool true)) (.t 75), none⟩,
  ⟨some 77, .mv (.t 76), none⟩,
  ⟨some 78, .faddr 19 (.t 1), some (77, false)⟩,
  ⟨some 79, .load 1 false (.t 78), some (77, false)⟩,
  ⟨some 80, .call 48 [(.t 79), (.c (.int .i64 (.ofNat 16)))], some (77, false)⟩,
  ⟨some 81, .un .not (.t 80), some (77, false)⟩,
  ⟨some 82, .pick (.t 77) (.c (.bool true)) (.t 81), none⟩,
  ⟨some 83, .mv (.t 82), none⟩,
  ⟨some 84, .faddr 20 (.t 1), some (83, false)⟩,
  ⟨some 85, .load 1 false (.t 84), some (83, false)⟩,
  ⟨some 86, .len .slice (.t 85), some (83, false)⟩,
  ⟨some 87, .mv (.t 4), some (83, false)⟩,
  ⟨some 88, .bin .neq (.t 86) (.t 87), some (83, false)⟩,
  ⟨some 89, .pick (.t 83) (.c (.bool true)) (.t 88), none⟩]
@[simp] def f14r21 : List ROper := [
  ⟨some 2, .mv (.c (.int .i64 (.ofNat 2))), none⟩]
@[simp] def f14r22 : List ROper := [
  ⟨some 9, .mv (.c (.int .i64 (.ofNat 0))), none⟩]
@[simp] def f14r23 : List ROper := [
  ⟨some 90, .mv (.t 9), none⟩,
  ⟨some 91, .faddr 20 (.t 1), none⟩,
  ⟨some 92, .load 1 false (.t 91), none⟩,
  ⟨some 93, .len .slice (.t 92), none⟩,
  ⟨some 94, .bin .lss (.t 90) (.t 93), none⟩]
@[simp] def f14r24 : List ROper := [
  ⟨some 97, .faddr 20 (.t 1), none⟩,
  ⟨some 98, .load 1 false (.t 97), none⟩,
  ⟨some 99, .mv (.t 9), none⟩,
  ⟨some 100, .iaddr 1 (.t 98) (.t 99), none⟩,
  ⟨some 101, .load 1 false (.t 100), none⟩,
  ⟨some 102, .bin .eql (.t 101) (.c (.str [])), none⟩,
  ⟨some 103, .mv (.t 102), none⟩,
  ⟨some 104, .faddr 20 (.t 1), some (103, false)⟩,
  ⟨some 105, .load 1 false (.t 104), some (103, false)⟩,
  ⟨some 106, .mv (.t 9), some (103, false)⟩,
  ⟨some 107, .iaddr 1 (.t 105) (.t 106), some (103, false)⟩,
  ⟨some 108, .load 1 false (.t 107), some (103, false)⟩,
  ⟨some 109, .call 48 [(.t 108), (.c (.int .i64 (.ofNat 8)))], some (103, false)⟩,
  ⟨some 110, .un .not (.t 109), some (103, false)⟩,
  ⟨some 111, .pick (.t 103) (.c (.bool true)) (.t 110), none⟩]
@[simp] def f14r25 : List ROper := [
  ⟨some 2, .mv (.c (.int .i64 (.ofNat 2))), none⟩]
@[simp] def f14r26 : List ROper := [
  ⟨some 95, .mv (.t 9), none⟩,
  ⟨some 96, .bin .add (.t 95) (.c (.int .i64 (.ofNat 1))), none⟩,
  ⟨some 9, .mv (.t 96), none⟩]
def f14B2 : RC := (.seq (.seq (.region f14r23 [1, 9, 94]) (.cond (.t 94) .skip (.exit 4))) (.seq (.block 5 (.seq (.region f14r24 [1, 9, 111]) (.cond (.t 111) (.seq (.region f14r25 [2]) .ret) .skip))) (.region f14r26 [1, 9])))
def f14L2 : RC := .loop [1, 9] f14B2
@[simp] def f14r27 : List ROper := [
  ⟨some 2, .mv (.c (.int .i64 (.ofNat 0))), none⟩]
def f14 : RFunc := ⟨[.t 2], (.seq (.region f14r0 [1]) (.seq (.region f14r1 [1, 3]) (.seq (.seq (.region f14r2 [1, 3, 14]) (.cond (.t 14) (.seq (.region f14r3 [2]) .ret) .skip)) (.seq (.region f14r4 [1, 4]) (.seq (.seq (.region f14r5 [1, 4, 5]) (.block 0 f14L0)) (.seq (.region f14r12 [1, 4, 6]) (.seq (.seq (.region f14r13 [1, 4, 6, 7]) (.block 2 f14L1)) (.seq (.seq (.region f14r20 [1, 89]) (.cond (.t 89) (.seq (.region f14r21 [2]) .ret) .skip)) (.seq (.seq (.region f14r22 [1, 9]) (.block 4 f14L2)) (.seq (.region f14r27 [2]) .ret)))))))))), true⟩

/-! quire/quirekit.SamePara -/
@[simp] def f15r0 : List ROper := [
  ⟨some 2, .box 21 (.t 0), none⟩,
  ⟨some 3, .box 21 (.t 1), none⟩,
  ⟨some 4, .mv (.c (.bool false)), none⟩]
@[simp] def f15r1 : List ROper := [
  ⟨some 5, .faddr 0 (.t 2), none⟩,
  ⟨some 6, .load 1 false (.t 5), none⟩,
  ⟨some 7, .faddr 0 (.t 3), none⟩,
  ⟨some 8, .load 1 false (.t 7), none⟩,
  ⟨some 9, .bin .eql (.t 6) (.t 8), none⟩,
  ⟨some 10, .mv (.t 9), none⟩,
  ⟨some 11, .faddr 1 (.t 2), some (10, true)⟩,
  ⟨some 12, .load 1 false (.t 11), some (10, true)⟩,
  ⟨some 13, .faddr 1 (.t 3), some (10, true)⟩,
  ⟨some 14, .load 1 false (.t 13), some (10, true)⟩,
  ⟨some 15, .call 49 [(.t 12), (.t 14)], some (10, true)⟩,
  ⟨some 16, .pick (.t 10) (.t 15) (.c (.bool false)), none⟩,
  ⟨some 17, .mv (.t 16), none⟩,
  ⟨some 18, .faddr 2 (.t 2), some (17, true)⟩,
  ⟨some 19, .load 17 true (.t 18), some (17, true)⟩,
  ⟨some 20, .faddr 2 (.t 3), some (17, true)⟩,
  ⟨some 21, .load 17 true (.t 20), some (17, true)⟩,
  ⟨some 22, .eq (.agg [.int, .int, .int, .int, .int, .int, .int, .int, .int, .int, .int, .int, .int, .int, .int, .int, .int]) false (.t 19) (.t 21), some (17, true)⟩,
  ⟨some 23, .pick (.t 17) (.t 22) (.c (.bool false)), none⟩,
  ⟨some 24, .mv (.t 23), none⟩,
  ⟨some 25, .faddr 19 (.t 2), some (24, true)⟩,
  ⟨some 26, .load 1 false (.t 25), some (24, true)⟩,
  ⟨some 27, .faddr 19 (.t 3), some (24, true)⟩,
  ⟨some 28, .load 1 false (.t 27), some (24, true)⟩,
  ⟨some 29, .bin .eql (.t 26) (.t 28), some (24, true)⟩,
  ⟨some 30, .pick (.t 24) (.t 29) (.c (.bool false)), none⟩,
  ⟨some 31, .mv (.t 30), none⟩,
  ⟨some 32, .faddr 20 (.t 2), some (31, true)⟩,
  ⟨some 33, .load 1 false (.t 32), some (31, true)⟩,
  ⟨some 34, .faddr 20 (.t 3), some (31, true)⟩,
  ⟨some 35, .load 1 false (.t 34), some (31, true)⟩,
  ⟨some 36, .call 50 [(.t 33), (.t 35)], some (31, true)⟩,
  ⟨some 37, .pick (.t 31) (.t 36) (.c (.bool false)), none⟩,
  ⟨some 4, .mv (.t 37), none⟩]
def f15 : RFunc := ⟨[.t 4], (.seq (.region f15r0 [2, 3]) (.seq (.region f15r1 [4]) .ret)), true⟩

/-! quire/quirelaw07.awake -/
@[simp] def f16r0 : List ROper := [
  ⟨some 0, .mv (.c (.bool false)), none⟩]
@[simp] def f16r1 : List ROper := [
  ⟨some 4, .call 25 [], none⟩,
  ⟨some 5, .call 10 [(.t 4)], none⟩,
  ⟨some 3, .mv (.t 5), none⟩,
  ⟨some 6, .extract (.t 3) 0, none⟩,
  ⟨some 7, .extract (.t 3) 1, none⟩,
  ⟨some 1, .mv (.t 6), none⟩,
  ⟨some 2, .mv (.t 7), none⟩]
@[simp] def f16r2 : List ROper := [
  ⟨some 8, .mv (.t 2), none⟩,
  ⟨some 9, .bin .eql (.t 8) (.c (.int .i64 (.ofNat 0))), none⟩,
  ⟨some 10, .mv (.t 9), none⟩,
  ⟨some 11, .mv (.t 1), some (10, true)⟩,
  ⟨some 12, .build [(.int .i64 (.ofNat 0)), (.int .i64 (.ofNat 0)), (.int .i64 (.ofNat 0)), (.int .i64 (.ofNat 0)), (.int .i64 (.ofNat 0)), (.int .i64 (.ofNat 0))] [(0, 1, (.c (.int .i64 (.ofNat 0)))), (1, 1, (.c (.int .i64 (.ofNat 1)))), (2, 1, (.c (.int .i64 (.ofNat 1)))), (3, 1, (.c (.int .i64 (.ofNat 16)))), (4, 1, (.c (.int .i64 (.ofNat 12))))], some (10, true)⟩,
  ⟨some 13, .build [(.int .i64 (.ofNat 0)), (.int .i64 (.ofNat 0)), (.int .i64 (.ofNat 0)), (.int .i64 (.ofNat 0)), (.int .i64 (.ofNat 0)), (.int .i64 (.ofNat 0))] [(0, 1, (.c (.int .i64 (.ofNat 1)))), (1, 1, (.c (.int .i64 (.ofNat 2)))), (2, 1, (.c (.int .i64 (.ofNat 1)))), (3, 1, (.c (.int .i64 (.ofNat 16)))), (4, 1, (.c (.int .i64 (.ofNat 12)))), (5, 1, (.c (.int .i64 (.negSucc 1))))], some (10, true)⟩,
  ⟨some 14, .lit 6 true [(.int .i64 (.ofNat 0)), (.int .i64 (.ofNat 0)), (.int .i64 (.ofNat 0)), (.int .i64 (.ofNat 0)), (.int .i64 (.ofNat 0)), (.int .i64 (.ofNat 0))] 2 [(0, (.t 12)), (1, (.t 13))], some (10, true)⟩,
  ⟨some 15, .call 12 [(.t 11), (.t 14)], some (10, true)⟩,
  ⟨some 16, .pick (.t 10) (.t 15) (.c (.bool false)), none⟩,
  ⟨some 0, .mv (.t 16), none⟩]
def f16 : RFunc := ⟨[.t 0], (.seq (.region f16r0 []) (.seq (.region f16r1 [1, 2]) (.seq (.region f16r2 [0]) .ret))), true⟩

/-! quire/metric.Width -/
@[simp] def f17r0 : List ROper := [
  ⟨some 4, .mv (.c (.int .i64 (.ofNat 0))), none⟩,
  ⟨some 5, .mv (.c (.int .i64 (.ofNat 0))), none⟩]
@[simp] def f17r1 : List ROper := [
  ⟨some 6, .mv (.t 1), none⟩,
  ⟨some 7, .call 51 [(.t 6)], none⟩,
  ⟨some 8, .un .not (.t 7), none⟩]
@[simp] def f17r2 : List ROper := [
  ⟨some 4, .mv (.c (.int .i64 (.ofNat 0))), none⟩,
  ⟨some 5, .mv (.c (.int .i64 (.ofNat 5))), none⟩]
@[simp] def f17r3 : List ROper := [
  ⟨some 9, .mv (.t 0), none⟩,
  ⟨some 10, .len .str (.t 9), none⟩,
  ⟨some 11, .bin .gtr (.t 10) (.c (.int .i64 (.ofNat 4096))), none⟩]
@[simp] def f17r4 : List ROper := [
  ⟨some 4, .mv (.c (.int .i64 (.ofNat 0))), none⟩,
  ⟨some 5, .mv (.c (.int .i64 (.ofNat 3))), none⟩]
@[simp] def f17r5 : List ROper := [
  ⟨some 12, .mv (.t 0), none⟩,
  ⟨some 13, .mv (.t 1), none⟩,
  ⟨some 14, .call 31 [(.t 12), (.t 13)], none⟩,
  ⟨some 4, .mv (.t 14), none⟩,
  ⟨some 5, .mv (.c (.int .i64 (.ofNat 0))), none⟩]
def f17 : RFunc := ⟨[.t 4, .t 5], (.seq (.region f17r0 [0, 1]) (.seq (.seq (.region f17r1 [0, 1, 8]) (.cond (.t 8) (.seq (.region f17r2 [4, 5]) .ret) .skip)) (.seq (.seq (.region f17r3 [0, 1, 11]) (.cond (.t 11) (.seq (.region f17r4 [4, 5]) .ret) .skip)) (.seq (.region f17r5 [4, 5]) .ret)))), true⟩

/-! quire/quireref07.Width -/
@[simp] def f18r0 : List ROper := [
  ⟨some 4, .mv (.c (.int .i64 (.ofNat 0))), none⟩,
  ⟨some 5, .mv (.c (.int .i64 (.ofNat 0))), none⟩]
@[simp] def f18r1 : List ROper := [
  ⟨some 6, .mv (.t 1), none⟩,
  ⟨some 7, .bin .lss (.t 6) (.c (.int .i64 (.ofNat 1))), none⟩,
  ⟨some 8, .mv (.t 7), none⟩,
  ⟨some 9, .mv (.t 1), some (8, false)⟩,
  ⟨some 10, .bin .gtr (.t 9) (.c (.int .i64 (.ofNat 64))), some (8, false)⟩,
  ⟨some 11, .pick (.t 8) (.c (.bool true)) (.t 10), none⟩]
@[simp] def f18r2 : List ROper := [
  ⟨some 4, .mv (.c (.int .i64 (.ofNat 0))), none⟩,
  ⟨some 5, .mv (.c (.int .i64 (.ofNat 5))), none⟩]
@[simp] def f18r3 : List ROper := [
  ⟨some 12, .mv (.t 0), none⟩,
  ⟨some 13, .len .str (.t 12), none⟩,
  ⟨some 14, .bin .gtr (.t 13) (.c (.int .i64 (.ofNat 4096))), none⟩]
@[simp] def f18r4 : List ROper := [
  ⟨some 4, .mv (.c (.int .i64 (.ofNat 0))), none⟩,
  ⟨some 5, .mv (.c (.int .i64 (.ofNat 3))), none⟩]
@[simp] def f18r5 : List ROper := [
  ⟨some 15, .mv (.t 0), none⟩,
  ⟨some 16, .mv (.t 1), none⟩,
  ⟨some 17, .call 38 [(.t 15), (.t 16)], none⟩,
  ⟨some 4, .mv (.t 17), none⟩,
  ⟨some 5, .mv (.c (.int .i64 (.ofNat 0))), none⟩]
def f18 : RFunc := ⟨[.t 4, .t 5], (.seq (.region f18r0 [0, 1]) (.seq (.seq (.region f18r1 [0, 1, 11]) (.cond (.t 11) (.seq (.region f18r2 [4, 5]) .ret) .skip)) (.seq (.seq (.region f18r3 [0, 1, 14]) (.cond (.t 14) (.seq (.region f18r4 [4, 5]) .ret) .skip)) (.seq (.region f18r5 [4, 5]) .ret)))), true⟩

/-! quire/metric.Kern -/
@[simp] def f19r0 : List ROper := [
  ⟨some 6, .mv (.c (.int .i64 (.ofNat 0))), none⟩,
  ⟨some 7, .mv (.c (.int .i64 (.ofNat 0))), none⟩]
@[simp] def f19r1 : List ROper := [
  ⟨some 8, .mv (.t 2), none⟩,
  ⟨some 9, .call 51 [(.t 8)], none⟩,
  ⟨some 10, .un .not (.t 9), none⟩]
@[simp] def f19r2 : List ROper := [
  ⟨some 6, .mv (.c (.int .i64 (.ofNat 0))), none⟩,
  ⟨some 7, .mv (.c (.int .i64 (.ofNat 5))), none⟩]
@[simp] def f19r3 : List ROper := [
  ⟨some 11, .mv (.t 0), none⟩,
  ⟨some 12, .mv (.t 1), none⟩,
  ⟨some 13, .mv (.t 2), none⟩,
  ⟨some 14, .call 32 [(.t 11), (.t 12), (.t 13)], none⟩,
  ⟨some 6, .mv (.t 14), none⟩,
  ⟨some 7, .mv (.c (.int .i64 (.ofNat 0))), none⟩]
def f19 : RFunc := ⟨[.t 6, .t 7], (.seq (.region f19r0 [0, 1, 2]) (.seq (.seq (.region f19r1 [0, 1, 2, 10]) (.cond (.t 10) (.seq (.region f19r2 [6, 7]) .ret) .skip)) (.seq (.region f19r3 [6, 7]) .ret))), true⟩

/-! quire/quireref07.Kern -/
@[simp] def f20r0 : List ROper := [
  ⟨some 6, .mv (.c (.int .i64 (.ofNat 0))), none⟩,
  ⟨some 7, .mv (.c (.int .i64 (.ofNat 0))), none⟩]
@[simp] def f20r1 : List ROper := [
  ⟨some 8, .mv (.t 2), none⟩,
  ⟨some 9, .bin .lss (.t 8) (.c (.int .i64 (.ofNat 1))), none⟩,
  ⟨some 10, .mv (.t 9), none⟩,
  ⟨some 11, .mv (.t 2), some (10, false)⟩,
  ⟨some 12, .bin .gtr (.t 11) (.c (.int .i64 (.ofNat 64))), some (10, false)⟩,
  ⟨some 13, .pick (.t 10) (.c (.bool true)) (.t 12), none⟩]
@[simp] def f20r2 : List ROper := [
  ⟨some 6, .mv (.c (.int .i64 (.ofNat 0))), none⟩,
  ⟨some 7, .mv (.c (.int .i64 (.ofNat 5))), none⟩]
@[simp] def f20r3 : List ROper := [
  ⟨some 14, .mv (.t 0), none⟩,
  ⟨some 15, .mv (.t 1), none⟩,
  ⟨some 16, .mv (.t 2), none⟩,
  ⟨some 17, .call 39 [(.t 14), (.t 15), (.t 16)], none⟩,
  ⟨some 6, .mv (.t 17), none⟩,
  ⟨some 7, .mv (.c (.int .i64 (.ofNat 0))), none⟩]
def f20 : RFunc := ⟨[.t 6, .t 7], (.seq (.region f20r0 [0, 1, 2]) (.seq (.seq (.region f20r1 [0, 1, 2, 13]) (.cond (.t 13) (.seq (.region f20r2 [6, 7]) .ret) .skip)) (.seq (.region f20r3 [6, 7]) .ret))), true⟩

/-! quire/metric.Em -/
@[simp] def f21r0 : List ROper := [
  ⟨some 2, .mv (.c (.int .i64 (.ofNat 0))), none⟩]
@[simp] def f21r1 : List ROper := [
  ⟨some 4, .mv (.t 0), none⟩,
  ⟨some 5, .call 40 [(.c (.str [105, 106, 108, 39, 46, 44, 58, 59, 33, 124])), (.t 4)], none⟩,
  ⟨some 6, .bin .geq (.t 5) (.c (.int .i64 (.ofNat 0))), none⟩,
  ⟨some 3, .mv (.t 6), none⟩]
@[simp] def f21r2 : List ROper := [
  ⟨some 2, .mv (.c (.int .i64 (.ofNat 2))), none⟩]
@[simp] def f21r3 : List ROper := [
  ⟨some 8, .mv (.t 0), none⟩,
  ⟨some 9, .call 40 [(.c (.str [102, 116, 114, 40, 41, 91, 93, 123, 125, 45, 34, 94, 95, 126, 96, 73, 32])), (.t 8)], none⟩,
  ⟨some 10, .bin .geq (.t 9) (.c (.int .i64 (.ofNat 0))), none⟩,
  ⟨some 7, .mv (.t 10), none⟩]
@[simp] def f21r4 : List ROper := [
  ⟨some 2, .mv (.c (.int .i64 (.ofNat 3))), none⟩]
@[simp] def f21r5 : List ROper := [
  ⟨some 12, .mv (.t 0), none⟩,
  ⟨some 13, .bin .eql (.t 12) (.c (.int .u8 (.ofNat 109))), none⟩,
  ⟨some 14, .mv (.t 13), none⟩,
  ⟨some 15, .mv (.t 0), some (14, false)⟩,
  ⟨some 16, .bin .eql (.t 15) (.c (.int .u8 (.ofNat 119))), some (14, false)⟩,
  ⟨some 17, .pick (.t 14) (.c (.bool true)) (.t 16), none⟩,
  ⟨some 11, .mv (.t 17), none⟩]
@[simp] def f21r6 : List ROper := [
  ⟨some 2, .mv (.c (.int .i64 (.ofNat 7))), none⟩]
@[simp] def f21r7 : List ROper := [
  ⟨some 19, .mv (.t 0), none⟩,
  ⟨some 20, .bin .eql (.t 19) (.c (.int .u8 (.ofNat 77))), none⟩,
  ⟨some 21, .mv (.t 20), none⟩,
  ⟨some 22, .mv (.t 0), some (21, false)⟩,
  ⟨some 23, .bin .eql (.t 22) (.c (.int .u8 (.ofNat 87))), some (21, false)⟩,
  ⟨some 24, .pick (.t 21) (.c (.bool true)) (.t 23), none⟩,
  ⟨some 18, .mv (.t 24), none⟩]
@[simp] def f21r8 : List ROper := [
  ⟨some 2, .mv (.c (.int .i64 (.ofNat 8))), none⟩]
@[simp] def f21r9 : List ROper := [
  ⟨some 26, .mv (.t 0), none⟩,
  ⟨some 27, .bin .geq (.t 26) (.c (.int .u8 (.ofNat 65))), none⟩,
  ⟨some 28, .mv (.t 27), none⟩,
  ⟨some 29, .mv (.t 0), some (28, true)⟩,
  ⟨some 30, .bin .leq (.t 29) (.c (.int .u8 (.ofNat 90))), some (28, true)⟩,
  ⟨some 31, .pick (.t 28) (.t 30) (.c (.bool false)), none⟩,
  ⟨some 25, .mv (.t 31), none⟩]
@[simp] def f21r10 : List ROper := [
  ⟨some 2, .mv (.c (.int .i64 (.ofNat 6))), none⟩]
@[simp] def f21r11 : List ROper := [
  ⟨some 33, .mv (.t 0), none⟩,
  ⟨some 34, .bin .geq (.t 33) (.c (.int .u8 (.ofNat 97))), none⟩,
  ⟨some 35, .mv (.t 34), none⟩,
  ⟨some 36, .mv (.t 0), some (35, true)⟩,
  ⟨some 37, .bin .leq (.t 36) (.c (.int .u8 (.ofNat 122))), some (35, true)⟩,
  ⟨some 38, .pick (.t 35) (.t 37) (.c (.bool false)), none⟩,
  ⟨some 39, .mv (.t 38), none⟩,
  ⟨some 40, .mv (.t 0), some (39, false)⟩,
  ⟨some 41, .bin .geq (.t 40) (.c (.int .u8 (.ofNat 48))), some (39, false)⟩,
  ⟨some 42, .mv (.t 41), some (39, false)⟩,
  ⟨some 43, .mv (.t 0), some (42, true)⟩,
  ⟨some 44, .bin .leq (.t 43) (.c (.int .u8 (.ofNat 57))), some (42, true)⟩,
  ⟨some 45, .pick (.t 42) (.t 44) (.c (.bool false)), some (39, false)⟩,
  ⟨some 46, .pick (.t 39) (.c (.bool true)) (.t 45), none⟩,
  ⟨some 32, .mv (.t 46), none⟩]
@[simp] def f21r12 : List ROper := [
  ⟨some 2, .mv (.c (.int .i64 (.ofNat 5))), none⟩]
@[simp] def f21r13 : List ROper := [
  ⟨some 48, .mv (.t 0), none⟩,
  ⟨some 49, .bin .gtr (.t 48) (.c (.int .u8 (.ofNat 32))), none⟩,
  ⟨some 50, .mv (.t 49), none⟩,
  ⟨some 51, .mv (.t 0), some (50, true)⟩,
  ⟨some 52, .bin .leq (.t 51) (.c (.int .u8 (.ofNat 126))), some (50, true)⟩,
  ⟨some 53, .pick (.t 50) (.t 52) (.c (.bool false)), none⟩,
  ⟨some 47, .mv (.t 53), none⟩]
@[simp] def f21r14 : List ROper := [
  ⟨some 2, .mv (.c (.int .i64 (.ofNat 6))), none⟩]
@[simp] def f21r15 : List ROper := [
  ⟨some 2, .mv (.c (.int .i64 (.ofNat 0))), none⟩]
def f21 : RFunc := ⟨[.t 2], (.seq (.region f21r0 [0]) (.seq (.block 0 (.seq (.region f21r1 [0, 3]) (.cond (.t 3) (.seq (.region f21r2 [2]) .ret) (.seq (.region f21r3 [0, 7]) (.cond (.t 7) (.seq (.region f21r4 [2]) .ret) (.seq (.region f21r5 [0, 11]) (.cond (.t 11) (.seq (.region f21r6 [2]) .ret) (.seq (.region f21r7 [0, 18]) (.cond (.t 18) (.seq (.region f21r8 [2]) .ret) (.seq (.region f21r9 [0, 25]) (.cond (.t 25) (.seq (.region f21r10 [2]) .ret) (.seq (.region f21r11 [0, 32]) (.cond (.t 32) (.seq (.region f21r12 [2]) .ret) (.seq (.region f21r13 [47]) (.cond (.t 47) (.seq (.region f21r14 [2]) .ret) .skip))))))))))))))) (.seq (.region f21r15 [2]) .ret))), true⟩

/-! quire/quireref07.Em -/
@[simp] def f22r0 : List ROper := [
  ⟨some 2, .mv (.c (.int .i64 (.ofNat 0))), none⟩]
@[simp] def f22r1 : List ROper := [
  ⟨some 4, .mv (.t 0), none⟩,
  ⟨some 5, .call 52 [(.t 4), (.c (.str [105, 106, 108, 39, 46, 44, 58, 59, 33, 124]))], none⟩,
  ⟨some 3, .mv (.t 5), none⟩]
@[simp] def f22r2 : List ROper := [
  ⟨some 2, .mv (.c (.int .i64 (.ofNat 2))), none⟩]
@[simp] def f22r3 : List ROper := [
  ⟨some 7, .mv (.t 0), none⟩,
  ⟨some 8, .call 52 [(.t 7), (.c (.str [102, 116, 114, 40, 41, 91, 93, 123, 125, 45, 34, 94, 95, 126, 32, 73]))], none⟩,
  ⟨some 9, .mv (.t 8), none⟩,
  ⟨some 10, .mv (.t 0), some (9, false)⟩,
  ⟨some 11, .bin .eql (.t 10) (.c (.int .u8 (.ofNat 96))), some (9, false)⟩,
  ⟨some 12, .pick (.t 9) (.c (.bool true)) (.t 11), none⟩,
  ⟨some 6, .mv (.t 12), none⟩]
@[simp] def f22r4 : List ROper := [
  ⟨some 2, .mv (.c (.int .i64 (.ofNat 3))), none⟩]
@[simp] def f22r5 : List ROper := [
  ⟨some 14, .mv (.t 0), none⟩,
  ⟨some 15, .bin .eql (.t 14) (.c (.int .u8 (.ofNat 109))), none⟩,
  ⟨some 16, .mv (.t 15), none⟩,
  ⟨some 17, .mv (.t 0), some (16, false)⟩,
  ⟨some 18, .bin .eql (.t 17) (.c (.int .u8 (.ofNat 119))), some (16, false)⟩,
  ⟨some 19, .pick (.t 16) (.c (.bool true)) (.t 18), none⟩,
  ⟨some 13, .mv (.t 19), none⟩]
@[simp] def f22r6 : List ROper := [
  ⟨some 2, .mv (.c (.int .i64 (.ofNat 7))), none⟩]
@[simp] def f22r7 : List ROper := [
  ⟨some 21, .mv (.t 0), none⟩,
  ⟨some 22, .bin .eql (.t 21) (.c (.int .u8 (.ofNat 77))), none⟩,
  ⟨some 23, .mv (.t 22), none⟩,
  ⟨some 24, .mv (.t 0), some (23, false)⟩,
  ⟨some 25, .bin .eql (.t 24) (.c (.int .u8 (.ofNat 87))), some (23, false)⟩,
  ⟨some 26, .pick (.t 23) (.c (.bool true)) (.t 25), none⟩,
  ⟨some 20, .mv (.t 26), none⟩]
@[simp] def f22r8 : List ROper := [
  ⟨some 2, .mv (.c (.int .i64 (.ofNat 8))), none⟩]
@[simp] def f22r9 : List ROper := [
  ⟨some 28, .mv (.t 0), none⟩,
  ⟨some 29, .bin .geq (.t 28) (.c (.int .u8 (.ofNat 65))), none⟩,
  ⟨some 30, .mv (.t 29), none⟩,
  ⟨some 31, .mv (.t 0), some (30, true)⟩,
  ⟨some 32, .bin .leq (.t 31) (.c (.int .u8 (.ofNat 90))), some (30, true)⟩,
  ⟨some 33, .pick (.t 30) (.t 32) (.c (.bool false)), none⟩,
  ⟨some 27, .mv (.t 33), none⟩]
@[simp] def f22r10 : List ROper := [
  ⟨some 2, .mv (.c (.int .i64 (.ofNat 6))), none⟩]
@[simp] def f22r11 : List ROper := [
  ⟨some 35, .mv (.t 0), none⟩,
  ⟨some 36, .bin .geq (.t 35) (.c (.int .u8 (.ofNat 97))), none⟩,
  ⟨some 37, .mv (.t 36), none⟩,
  ⟨some 38, .mv (.t 0), some (37, true)⟩,
  ⟨some 39, .bin .leq (.t 38) (.c (.int .u8 (.ofNat 122))), some (37, true)⟩,
  ⟨some 40, .pick (.t 37) (.t 39) (.c (.bool false)), none⟩,
  ⟨some 41, .mv (.t 40), none⟩,
  ⟨some 42, .mv (.t 0), some (41, false)⟩,
  ⟨some 43, .bin .geq (.t 42) (.c (.int .u8 (.ofNat 48))), some (41, false)⟩,
  ⟨some 44, .mv (.t 43), some (41, false)⟩,
  ⟨some 45, .mv (.t 0), some (44, true)⟩,
  ⟨some 46, .bin .leq (.t 45) (.c (.int .u8 (.ofNat 57))), some (44, true)⟩,
  ⟨some 47, .pick (.t 44) (.t 46) (.c (.bool false)), some (41, false)⟩,
  ⟨some 48, .pick (.t 41) (.c (.bool true)) (.t 47), none⟩,
  ⟨some 34, .mv (.t 48), none⟩]
@[simp] def f22r12 : List ROper := [
  ⟨some 2, .mv (.c (.int .i64 (.ofNat 5))), none⟩]
@[simp] def f22r13 : List ROper := [
  ⟨some 50, .mv (.t 0), none⟩,
  ⟨some 51, .bin .gtr (.t 50) (.c (.int .u8 (.ofNat 32))), none⟩,
  ⟨some 52, .mv (.t 51), none⟩,
  ⟨some 53, .mv (.t 0), some (52, true)⟩,
  ⟨some 54, .bin .lss (.t 53) (.c (.int .u8 (.ofNat 127))), some (52, true)⟩,
  ⟨some 55, .pick (.t 52) (.t 54) (.c (.bool false)), none⟩,
  ⟨some 49, .mv (.t 55), none⟩]
@[simp] def f22r14 : List ROper := [
  ⟨some 2, .mv (.c (.int .i64 (.ofNat 6))), none⟩]
@[simp] def f22r15 : List ROper := [
  ⟨some 2, .mv (.c (.int .i64 (.ofNat 0))), none⟩]
def f22 : RFunc := ⟨[.t 2], (.seq (.region f22r0 [0]) (.seq (.block 0 (.seq (.region f22r1 [0, 3]) (.cond (.t 3) (.seq (.region f22r2 [2]) .ret) (.seq (.region f22r3 [0, 6]) (.cond (.t 6) (.seq (.region f22r4 [2]) .ret) (.seq (.region f22r5 [0, 13]) (.cond (.t 13) (.seq (.region f22r6 [2]) .ret) (.seq (.region f22r7 [0, 20]) (.cond (.t 20) (.seq (.region f22r8 [2]) .ret) (.seq (.region f22r9 [0, 27]) (.cond (.t 27) (.seq (.region f22r10 [2]) .ret) (.seq (.region f22r11 [0, 34]) (.cond (.t 34) (.seq (.region f22r12 [2]) .ret) (.seq (.region f22r13 [49]) (.cond (.t 49) (.seq (.region f22r14 [2]) .ret) .skip))))))))))))))) (.seq (.region f22r15 [2]) .ret))), true⟩

/-! quire/metric.Natural -/
@[simp] def f23r0 : List ROper := [
  ⟨some 6, .mv (.c (.int .i64 (.ofNat 0))), none⟩,
  ⟨some 7, .mv (.c (.int .i64 (.ofNat 0))), none⟩]
@[simp] def f23r1 : List ROper := [
  ⟨some 13, .mv (.t 0), none⟩,
  ⟨some 14, .len .slice (.t 13), none⟩,
  ⟨some 15, .bin .gtr (.t 14) (.c (.int .i64 (.ofNat 4096))), none⟩]
@[simp] def f23r2 : List ROper := [
  ⟨some 6, .mv (.c (.int .i64 (.ofNat 0))), none⟩,
  ⟨some 7, .mv (.c (.int .i64 (.ofNat 3))), none⟩]
@[simp] def f23r3 : List ROper := [
  ⟨some 16, .mv (.t 0), none⟩,
  ⟨some 17, .len .slice (.t 16), none⟩,
  ⟨some 18, .mv (.c (.int .i64 (.ofNat 0))), none⟩]
@[simp] def f23r4 : List ROper := [
  ⟨some 19, .bin .lss (.t 18) (.t 17), none⟩]
@[simp] def f23r5 : List ROper := [
  ⟨some 20, .iaddr 6 (.t 16) (.t 18), none⟩,
  ⟨some 21, .load 6 true (.t 20), none⟩,
  ⟨some 9, .alloc [(.int .i64 (.ofNat 0)), (.int .i64 (.ofNat 0)), (.int .i64 (.ofNat 0)), (.int .i64 (.ofNat 0)), (.int .i64 (.ofNat 0)), (.int .i64 (.ofNat 0))], none⟩,
  ⟨none, .store 6 (.t 9) (.t 21), none⟩]
@[simp] def f23r6 : List ROper := [
  ⟨some 22, .faddr 4 (.t 9), none⟩,
  ⟨some 23, .load 1 false (.t 22), none⟩,
  ⟨some 24, .bin .lss (.t 23) (.c (.int .i64 (.ofNat 0))), none⟩,
  ⟨some 25, .mv (.t 24), none⟩,
  ⟨some 26, .faddr 4 (.t 9), some (25, false)⟩,
  ⟨some 27, .load 1 false (.t 26), some (25, false)⟩,
  ⟨some 28, .bin .gtr (.t 27) (.c (.int .i64 (.ofNat 4095))), some (25, false)⟩,
  ⟨some 29, .pick (.t 25) (.c (.bool true)) (.t 28), none⟩,
  ⟨some 30, .mv (.t 29), none⟩,
  ⟨some 31, .faddr 5 (.t 9), some (30, false)⟩,
  ⟨some 32, .load 1 false (.t 31), some (30, false)⟩,
  ⟨some 33, .bin .lss (.t 32) (.c (.int .i64 (.negSucc 63))), some (30, false)⟩,
  ⟨some 34, .pick (.t 30) (.c (.bool true)) (.t 33), none⟩,
  ⟨some 35, .mv (.t 34), none⟩,
  ⟨some 36, .faddr 5 (.t 9), some (35, false)⟩,
  ⟨some 37, .load 1 false (.t 36), some (35, false)⟩,
  ⟨some 38, .bin .gtr (.t 37) (.c (.int .i64 (.ofNat 0))), some (35, false)⟩,
  ⟨some 39, .pick (.t 35) (.c (.bool true)) (.t 38), none⟩]
@[simp] def f23r7 : List ROper := [
  ⟨some 6, .mv (.c (.int .i64 (.ofNat 0))), none⟩,
  ⟨some 7, .mv (.c (.int .i64 (.ofNat 2))), none⟩]
@[simp] def f23r8 : List ROper := [
  ⟨some 40, .bin .add (.t 18) (.c (.int .i64 (.ofNat 1))), none⟩,
  ⟨some 18, .mv (.t 40), none⟩]
def f23B0 : RC := (.seq (.region f23r4 [0, 1, 2, 16, 17, 18, 19]) (.seq (.cond (.t 19) .skip (.exit 0)) (.seq (.block 1 (.seq (.region f23r5 [0, 1, 2, 9, 16, 17, 18]) (.seq (.region f23r6 [0, 1, 2, 16, 17, 18, 39]) (.cond (.t 39) (.seq (.region f23r7 [6, 7]) .ret) .skip)))) (.region f23r8 [0, 1, 2, 16, 17, 18]))))
def f23L0 : RC := .loop [0, 1, 2, 16, 17, 18] f23B0
@[simp] def f23r9 : List ROper := [
  ⟨some 41, .mv (.t 1), none⟩,
  ⟨some 42, .bin .lss (.t 41) (.c (.int .i64 (.ofNat 0))), none⟩,
  ⟨some 43, .mv (.t 42), none⟩,
  ⟨some 44, .mv (.t 2), some (43, false)⟩,
  ⟨some 45, .mv (.t 1), some (43, false)⟩,
  ⟨some 46, .bin .lss (.t 44) (.t 45), some (43, false)⟩,
  ⟨some 47, .pick (.t 43) (.c (.bool true)) (.t 46), none⟩,
  ⟨some 48, .mv (.t 47), none⟩,
  ⟨some 49, .mv (.t 2), some (48, false)⟩,
  ⟨some 50, .mv (.t 0), some (48, false)⟩,
  ⟨some 51, .len .slice (.t 50), some (48, false)⟩,
  ⟨some 52, .bin .gtr (.t 49) (.t 51), some (48, false)⟩,
  ⟨some 53, .pick (.t 48) (.c (.bool true)) (.t 52), none⟩]
@[simp] def f23r10 : List ROper := [
  ⟨some 6, .mv (.c (.int .i64 (.ofNat 0))), none⟩,
  ⟨some 7, .mv (.c (.int .i64 (.ofNat 5))), none⟩]
@[simp] def f23r11 : List ROper := [
  ⟨some 10, .mv (.c (.int .i64 (.ofNat 0))), none⟩]
@[simp] def f23r12 : List ROper := [
  ⟨some 54, .mv (.t 0), none⟩,
  ⟨some 55, .mv (.t 1), none⟩,
  ⟨some 56, .mv (.t 2), none⟩,
  ⟨some 57, .slice false 6 (.t 54) (some (.t 55)) (some (.t 56)) none, none⟩,
  ⟨some 58, .len .slice (.t 57), none⟩,
  ⟨some 59, .mv (.c (.int .i64 (.ofNat 0))), none⟩]
@[simp] def f23r13 : List ROper := [
  ⟨some 60, .bin .lss (.t 59) (.t 58), none⟩]
@[simp] def f23r14 : List ROper := [
  ⟨some 61, .mv (.t 59), none⟩,
  ⟨some 62, .iaddr 6 (.t 57) (.t 59), none⟩,
  ⟨some 63, .load 6 true (.t 62), none⟩,
  ⟨some 12, .alloc [(.int .i64 (.ofNat 0)), (.int .i64 (.ofNat 0)), (.int .i64 (.ofNat 0)), (.int .i64 (.ofNat 0)), (.int .i64 (.ofNat 0)), (.int .i64 (.ofNat 0))], none⟩,
  ⟨some 11, .mv (.t 61), none⟩,
  ⟨none, .store 6 (.t 12) (.t 63), none⟩]
@[simp] def f23r15 : List ROper := [
  ⟨some 64, .mv (.t 10), none⟩,
  ⟨some 65, .faddr 4 (.t 12), none⟩,
  ⟨some 66, .load 1 false (.t 65), none⟩,
  ⟨some 67, .bin .add (.t 64) (.t 66), none⟩,
  ⟨some 10, .mv (.t 67), none⟩]
@[simp] def f23r16 : List ROper := [
  ⟨some 68, .mv (.t 11), none⟩,
  ⟨some 69, .bin .gtr (.t 68) (.c (.int .i64 (.ofNat 0))), none⟩]
@[simp] def f23r17 : List ROper := [
  ⟨some 70, .mv (.t 10), none⟩,
  ⟨some 71, .faddr 5 (.t 12), none⟩,
  ⟨some 72, .load 1 false (.t 71), none⟩,
  ⟨some 73, .bin .add (.t 70) (.t 72), none⟩,
  ⟨some 10, .mv (.t 73), none⟩]
@[simp] def f23r18 : List ROper := [
  ⟨some 74, .bin .add (.t 59) (.c (.int .i64 (.ofNat 1))), none⟩,
  ⟨some 59, .mv (.t 74), none⟩]
def f23B1 : RC := (.seq (.region f23r13 [10, 57, 58, 59, 60]) (.seq (.cond (.t 60) .skip (.exit 2)) (.seq (.block 3 (.seq (.region f23r14 [10, 11, 12, 57, 58, 59]) (.seq (.region f23r15 [10, 11, 12, 57, 58, 59]) (.seq (.region f23r16 [10, 12, 57, 58, 59, 69]) (.cond (.t 69) (.region f23r17 [10, 57, 58, 59]) .skip))))) (.region f23r18 [10, 57, 58, 59]))))
def f23L1 : RC := .loop [10, 57, 58, 59] f23B1
@[simp] def f23r19 : List ROper := [
  ⟨some 75, .mv (.t 10), none⟩,
  ⟨some 6, .mv (.t 75), none⟩,
  ⟨some 7, .mv (.c (.int .i64 (.ofNat 0))), none⟩]
def f23 : RFunc := ⟨[.t 6, .t 7], (.seq (.region f23r0 [0, 1, 2]) (.seq (.seq (.region f23r1 [0, 1, 2, 15]) (.cond (.t 15) (.seq (.region f23r2 [6, 7]) .ret) .skip)) (.seq (.seq (.region f23r3 [0, 1, 2, 16, 17, 18]) (.block 0 f23L0)) (.seq (.seq (.region f23r9 [0, 1, 2, 53]) (.cond (.t 53) (.seq (.region f23r10 [6, 7]) .ret) .skip)) (.seq (.region f23r11 [0, 1, 2, 10]) (.seq (.seq (.region f23r12 [10, 57, 58, 59]) (.block 2 f23L1)) (.seq (.region f23r19 [6, 7]) .ret))))))), true⟩

/-! quire/quireref07.Natural -/
@[simp] def f24r0 : List ROper := [
  ⟨some 6, .mv (.c (.int .i64 (.ofNat 0))), none⟩,
  ⟨some 7, .mv (.c (.int .i64 (.ofNat 0))), none⟩]
@[simp] def f24r1 : List ROper := [
  ⟨some 9, .mv (.t 0), none⟩,
  ⟨some 10, .len .slice (.t 9), none⟩,
  ⟨some 11, .bin .gtr (.t 10) (.c (.int .i64 (.ofNat 4096))), none⟩]
@[simp] def f24r2 : List ROper := [
  ⟨some 6, .mv (.c (.int .i64 (.ofNat 0))), none⟩,
  ⟨some 7, .mv (.c (.int .i64 (.ofNat 3))), none⟩]
@[simp] def f24r3 : List ROper := [
  ⟨some 8, .mv (.c (.int .i64 (.ofNat 0))), none⟩]
@[simp] def f24r4 : List ROper := [
  ⟨some 12, .mv (.t 8), none⟩,
  ⟨some 13, .mv (.t 0), none⟩,
  ⟨some 14, .len .slice (.t 13), none⟩,
  ⟨some 15, .bin .lss (.t 12) (.t 14), none⟩]
@[simp] def f24r5 : List ROper := [
  ⟨some 18, .mv (.t 0), none⟩,
  ⟨some 19, .mv (.t 8), none⟩,
  ⟨some 20, .iaddr 6 (.t 18) (.t 19), none⟩,
  ⟨some 21, .faddr 4 (.t 20), none⟩,
  ⟨some 22, .load 1 false (.t 21), none⟩,
  ⟨some 23, .bin .lss (.t 22) (.c (.int .i64 (.ofNat 0))), none⟩,
  ⟨some 24, .mv (.t 23), none⟩,
  ⟨some 25, .mv (.t 0), some (24, false)⟩,
  ⟨some 26, .mv (.t 8), some (24, false)⟩,
  ⟨some 27, .iaddr 6 (.t 25) (.t 26), some (24, false)⟩,
  ⟨some 28, .faddr 4 (.t 27), some (24, false)⟩,
  ⟨some 29, .load 1 false (.t 28), some (24, false)⟩,
  ⟨some 30, .bin .gtr (.t 29) (.c (.int .i64 (.ofNat 4095))), some (24, false)⟩,
  ⟨some 31, .pick (.t 24) (.c (.bool true)) (.t 30), none⟩,
  ⟨some 32, .mv (.t 31), none⟩,
  ⟨some 33, .mv (.t 0), some (32, false)⟩,
  ⟨some 34, .mv (.t 8), some (32, false)⟩,
  ⟨some 35, .iaddr 6 (.t 33) (.t 34), some (32, false)⟩,
  ⟨some 36, .faddr 5 (.t 35), some (32, false)⟩,
  ⟨some 37, .load 1 false (.t 36), some (32, false)⟩,
  ⟨some 38, .bin .lss (.t 37) (.c (.int .i64 (.negSucc 63))), some (32, false)⟩,
  ⟨some 39, .pick (.t 32) (.c (.bool true)) (.t 38), none⟩,
  ⟨some 40, .mv (.t 39), none⟩,
  ⟨some 41, .mv (.t 0), some (40, false)⟩,
  ⟨some 42, .mv (.t 8), some (40, false)⟩,
  ⟨some 43, .iaddr 6 (.t 41) (.t 42), some (40, false)⟩,
  ⟨some 44, .faddr 5 (.t 43), some (40, false)⟩,
  ⟨some 45, .load 1 false (.t 44), some (40, false)⟩,
  ⟨some 46, .bin .gtr (.t 45) (.c (.int .i64 (.ofNat 0))), some (40, false)⟩,
  ⟨some 47, .pick (.t 40) (.c (.bool true)) (.t 46), none⟩]
@[simp] def f24r6 : List ROper := [
  ⟨some 6, .mv (.c (.int .i64 (.ofNat 0))), none⟩,
  ⟨some 7, .mv (.c (.int .i64 (.ofNat 2))), none⟩]
@[simp] def f24r7 : List ROper := [
  ⟨some 16, .mv (.t 8), none⟩,
  ⟨some 17, .bin .add (.t 16) (.c (.int .i64 (.ofNat 1))), none⟩,
  ⟨some 8, .mv (.t 17), none⟩]
def f24B0 : RC := (.seq (.seq (.region f24r4 [0, 1, 2, 8, 15]) (.cond (.t 15) .skip (.exit 0))) (.seq (.block 1 (.seq (.region f24r5 [0, 1, 2, 8, 47]) (.cond (.t 47) (.seq (.region f24r6 [6, 7]) .ret) .skip))) (.region f24r7 [0, 1, 2, 8])))
def f24L0 : RC := .loop [0, 1, 2, 8] f24B0
@[simp] def f24r8 : List ROper := [
  ⟨some 48, .mv (.t 1), none⟩,
  ⟨some 49, .bin .lss (.t 48) (.c (.int .i64 (.ofNat 0))), none⟩,
  ⟨some 50, .mv (.t 49), none⟩,
  ⟨some 51, .mv (.t 2), some (50, false)⟩,
  ⟨some 52, .mv (.t 1), some (50, false)⟩,
  ⟨some 53, .bin .lss (.t 51) (.t 52), some (50, false)⟩,
  ⟨some 54, .pick (.t 50) (.c (.bool true)) (.t 53), none⟩,
  ⟨some 55, .mv (.t 54), none⟩,
  ⟨some 56, .mv (.t 2), some (55, false)⟩,
  ⟨some 57, .mv (.t 0), some (55, false)⟩,
  ⟨some 58, .len .slice (.t 57), some (55, false)⟩,
  ⟨some 59, .bin .gtr (.t 56) (.t 58), some (55, false)⟩,
  ⟨some 60, .pick (.t 55) (.c (.bool true)) (.t 59), none⟩]
@[simp] def f24r9 : List ROper := [
  ⟨some 6, .mv (.c (.int .i64 (.ofNat 0))), none⟩,
  ⟨some 7, .mv (.c (.int .i64 (.ofNat 5))), none⟩]
@[simp] def f24r10 : List ROper := [
  ⟨some 61, .mv (.t 0), none⟩,
  ⟨some 62, .mv (.t 1), none⟩,
  ⟨some 63, .mv (.t 2), none⟩,
  ⟨some 64, .call 53 [(.t 61), (.t 62), (.t 63)], none⟩,
  ⟨some 6, .mv (.t 64), none⟩,
  ⟨some 7, .mv (.c (.int .i64 (.ofNat 0))), none⟩]
def f24 : RFunc := ⟨[.t 6, .t 7], (.seq (.region f24r0 [0, 1, 2]) (.seq (.seq (.region f24r1 [0, 1, 2, 11]) (.cond (.t 11) (.seq (.region f24r2 [6, 7]) .ret) .skip)) (.seq (.seq (.region f24r3 [0, 1, 2, 8]) (.block 0 f24L0)) (.seq (.seq (.region f24r8 [0, 1, 2, 60]) (.cond (.t 60) (.seq (.region f24r9 [6, 7]) .ret) .skip)) (.seq (.region f24r10 [6, 7]) .ret))))), true⟩

/-! quire/quirelaw07.example -/
@[simp] def f25r0 : List ROper := [
  ⟨some 0, .alloc [(.str []), (.list 0 0 .no false []), (.int .i64 (.ofNat 0)), (.int .i64 (.ofNat 0)), (.int .i64 (.ofNat 0)), (.int .i64 (.ofNat 0)), (.int .i64 (.ofNat 0)), (.int .i64 (.ofNat 0)), (.int .i64 (.ofNat 0)), (.int .i64 (.ofNat 0)), (.int .i64 (.ofNat 0)), (.int .i64 (.ofNat 0)), (.int .i64 (.ofNat 0)), (.int .i64 (.ofNat 0)), (.int .i64 (.ofNat 0)), (.int .i64 (.ofNat 0)), (.int .i64 (.ofNat 0)), (.int .i64 (.ofNat 0)), (.int .i64 (.ofNat 0)), (.str []), (.list 0 0 .no false [])], none⟩]
@[simp] def f25r1 : List ROper := [
  ⟨some 1, .build [(.int .i64 (.ofNat 0)), (.int .i64 (.ofNat 0)), (.int .i64 (.ofNat 0))] [(2, 1, (.c (.int .i64 (.ofNat 1))))], none⟩,
  ⟨some 2, .build [(.int .i64 (.ofNat 0)), (.int .i64 (.ofNat 0)), (.int .i64 (.ofNat 0)), (.int .i64 (.ofNat 0))] [(0, 1, (.c (.int .i64 (.ofNat 2)))), (1, 3, (.t 1))], none⟩,
  ⟨some 3, .lit 4 true [(.int .i64 (.ofNat 0)), (.int .i64 (.ofNat 0)), (.int .i64 (.ofNat 0)), (.int .i64 (.ofNat 0))] 1 [(0, (.t 2))], none⟩,
  ⟨some 4, .call 26 [(.c (.int .i64 (.ofNat 16)))], none⟩,
  ⟨some 5, .build [(.str []), (.list 0 0 .no false []), (.int .i64 (.ofNat 0)), (.int .i64 (.ofNat 0)), (.int .i64 (.ofNat 0)), (.int .i64 (.ofNat 0)), (.int .i64 (.ofNat 0)), (.int .i64 (.ofNat 0)), (.int .i64 (.ofNat 0)), (.int .i64 (.ofNat 0)), (.int .i64 (.ofNat 0)), (.int .i64 (.ofNat 0)), (.int .i64 (.ofNat 0)), (.int .i64 (.ofNat 0)), (.int .i64 (.ofNat 0)), (.int .i64 (.ofNat 0)), (.int .i64 (.ofNat 0)), (.int .i64 (.ofNat 0)), (.int .i64 (.ofNat 0)), (.str []), (.list 0 0 .no false [])] [(0, 1, (.c (.str [65, 86]))), (1, 1, (.t 3)), (2, 17, (.t 4))], none⟩,
  ⟨none, .store 21 (.t 0) (.t 5), none⟩]
def f25 : RFunc := ⟨[.cell 0 21 true], (.seq (.region f25r0 [0]) (.seq (.region f25r1 [0]) .ret)), true⟩

/-! quire/quirelaw07.Plain -/
@[simp] def f26r0 : List ROper := [
  ⟨some 2, .alloc [(.int .i64 (.ofNat 0)), (.int .i64 (.ofNat 0)), (.int .i64 (.ofNat 0)), (.int .i64 (.ofNat 0)), (.int .i64 (.ofNat 0)), (.int .i64 (.ofNat 0)), (.int .i64 (.ofNat 0)), (.int .i64 (.ofNat 0)), (.int .i64 (.ofNat 0)), (.int .i64 (.ofNat 0)), (.int .i64 (.ofNat 0)), (.int .i64 (.ofNat 0)), (.int .i64 (.ofNat 0)), (.int .i64 (.ofNat 0)), (.int .i64 (.ofNat 0)), (.int .i64 (.ofNat 0)), (.int .i64 (.ofNat 0))], none⟩]
@[simp] def f26r1 : List ROper := [
  ⟨some 3, .mv (.t 0), none⟩,
  ⟨some 4, .build [(.int .i64 (.ofNat 0)), (.int .i64 (.ofNat 0)), (.int .i64 (.ofNat 0)), (.int .i64 (.ofNat 0)), (.int .i64 (.ofNat 0)), (.int .i64 (.ofNat 0)), (.int .i64 (.ofNat 0)), (.int .i64 (.ofNat 0)), (.int .i64 (.ofNat 0)), (.int .i64 (.ofNat 0)), (.int .i64 (.ofNat 0)), (.int .i64 (.ofNat 0)), (.int .i64 (.ofNat 0)), (.int .i64 (.ofNat 0)), (.int .i64 (.ofNat 0)), (.int .i64 (.ofNat 0)), (.int .i64 (.ofNat 0))] [(0, 1, (.t 3)), (1, 1, (.c (.int .i64 (.ofNat 12)))), (10, 1, (.c (.int .i64 (.ofNat 1)))), (11, 1, (.c (.int .i64 (.ofNat 1))))], none⟩,
  ⟨none, .store 17 (.t 2) (.t 4), none⟩]
def f26 : RFunc := ⟨[.cell 2 17 true], (.seq (.region f26r0 [0, 2]) (.seq (.region f26r1 [2]) .ret)), true⟩

/-! quire/cluster.Split -/
@[simp] def f27r0 : List ROper := [
  ⟨some 2, .mv (.c (.list 0 0 .no false [])), none⟩,
  ⟨some 3, .mv (.c (.int .i64 (.ofNat 0))), none⟩]
@[simp] def f27r1 : List ROper := [
  ⟨some 7, .mv (.t 0), none⟩,
  ⟨some 8, .call 54 [(.t 7)], none⟩,
  ⟨some 4, .mv (.t 8), none⟩]
@[simp] def f27r2 : List ROper := [
  ⟨some 9, .mv (.t 4), none⟩,
  ⟨some 10, .bin .neq (.t 9) (.c (.int .i64 (.ofNat 0))), none⟩]
@[simp] def f27r3 : List ROper := [
  ⟨some 11, .mv (.t 4), none⟩,
  ⟨some 2, .mv (.c (.list 0 0 .no false [])), none⟩,
  ⟨some 3, .mv (.t 11), none⟩]
@[simp] def f27r4 : List ROper := [
  ⟨some 5, .alloc [(.list 0 0 .no false [])], none⟩]
@[simp] def f27r5 : List ROper := [
  ⟨some 12, .mv (.t 0), none⟩,
  ⟨some 13, .call 55 [(.t 12)], none⟩]
@[simp] def f27r6 : List ROper := [
  ⟨some 6, .alloc [(.int .i64 (.ofNat 0)), (.int .i64 (.ofNat 0)), (.int .i64 (.ofNat 0))], none⟩,
  ⟨none, .store 3 (.t 6) (.t 14), none⟩]
@[simp] def f27r7 : List ROper := [
  ⟨some 15, .load 1 false (.t 5), none⟩,
  ⟨some 16, .load 3 true (.t 6), none⟩,
  ⟨some 17, .lit 3 true [(.int .i64 (.ofNat 0)), (.int .i64 (.ofNat 0)), (.int .i64 (.ofNat 0))] 1 [(0, (.t 16))], none⟩,
  ⟨some 18, .append 3 true 24 (.t 15) (.t 17), none⟩,
  ⟨none, .store 1 (.t 5) (.t 18), none⟩]
@[simp] def f27r8 : List ROper := [
  ⟨some 19, .load 1 false (.t 5), none⟩,
  ⟨some 2, .mv (.t 19), none⟩,
  ⟨some 3, .mv (.c (.int .i64 (.ofNat 0))), none⟩]
def f27 : RFunc := ⟨[.t 2, .t 3], (.seq (.region f27r0 [0]) (.seq (.seq (.region f27r1 [0, 4]) (.seq (.region f27r2 [0, 4, 10]) (.cond (.t 10) (.seq (.region f27r3 [2, 3]) .ret) .skip))) (.seq (.region f27r4 [0, 5]) (.seq (.seq (.region f27r5 [5, 13]) (.block 0 (.rfunc (.t 13) [14] (.region f27r6 [5, 6]) (.block 1 (.region f27r7 [])) [5, 13]))) (.seq (.region f27r8 [2, 3]) .ret))))), true⟩

/-! quire/quirekit.Pick -/
@[simp] def f28r0 : List ROper := [
  ⟨some 4, .mv (.c (.int .i64 (.ofNat 0))), none⟩]
@[simp] def f28r1 : List ROper := [
  ⟨some 5, .mv (.t 1), none⟩,
  ⟨some 6, .bin .lss (.t 5) (.c (.int .i64 (.ofNat 1))), none⟩]
@[simp] def f28r2 : List ROper := [
  ⟨some 4, .mv (.c (.int .i64 (.ofNat 0))), none⟩]
@[simp] def f28r3 : List ROper := [
  ⟨some 7, .mv (.t 0), none⟩,
  ⟨some 8, .mv (.t 1), none⟩,
  ⟨some 9, .bin .rem (.t 7) (.t 8), none⟩,
  ⟨some 0, .mv (.t 9), none⟩]
@[simp] def f28r4 : List ROper := [
  ⟨some 10, .mv (.t 0), none⟩,
  ⟨some 11, .bin .lss (.t 10) (.c (.int .i64 (.ofNat 0))), none⟩]
@[simp] def f28r5 : List ROper := [
  ⟨some 12, .mv (.t 0), none⟩,
  ⟨some 13, .mv (.t 1), none⟩,
  ⟨some 14, .bin .add (.t 12) (.t 13), none⟩,
  ⟨some 0, .mv (.t 14), none⟩]
@[simp] def f28r6 : List ROper := [
  ⟨some 15, .mv (.t 0), none⟩,
  ⟨some 4, .mv (.t 15), none⟩]
def f28 : RFunc := ⟨[.t 4], (.seq (.region f28r0 [0, 1]) (.seq (.seq (.region f28r1 [0, 1, 6]) (.cond (.t 6) (.seq (.region f28r2 [4]) .ret) .skip)) (.seq (.region f28r3 [0, 1]) (.seq (.seq (.region f28r4 [0, 1, 11]) (.cond (.t 11) (.region f28r5 [0]) .skip)) (.seq (.region f28r6 [4]) .ret))))), true⟩

/-! quire/metric.looks -/
@[simp] def f29r0 : List ROper := [
  ⟨some 1, .box 1 (.t 0), none⟩,
  ⟨some 2, .mv (.c .nilfn), none⟩]
@[simp] def f29r1 : List ROper := [
  ⟨some 3, .alloc [(.int .i64 (.ofNat 0))], none⟩,
  ⟨none, .store 1 (.t 3) (.c (.int .i64 (.ofNat 0))), none⟩]
@[simp] def f29r2 : List ROper := [
  ⟨some 4, .load 1 false (.t 1), none⟩,
  ⟨some 5, .len .slice (.t 4), none⟩,
  ⟨some 6, .bin .gtr (.t 5) (.c (.int .i64 (.ofNat 0))), none⟩]
@[simp] def f29r3 : List ROper := [
  ⟨some 7, .load 1 false (.t 1), none⟩,
  ⟨some 8, .iaddr 4 (.t 7) (.c (.int .i64 (.ofNat 0))), none⟩,
  ⟨some 9, .faddr 0 (.t 8), none⟩,
  ⟨some 10, .load 1 false (.t 9), none⟩,
  ⟨none, .store 1 (.t 3) (.t 10), none⟩]
@[simp] def f29r4 : List ROper := [
  ⟨some 11, .mkfn 56 [] [(.t 1), (.t 3)], none⟩,
  ⟨some 2, .mv (.t 11), none⟩]
def f29 : RFunc := ⟨[.t 2], (.seq (.region f29r0 [1]) (.seq (.region f29r1 [1, 3]) (.seq (.seq (.region f29r2 [1, 3, 6]) (.cond (.t 6) (.region f29r3 [1, 3]) .skip)) (.seq (.region f29r4 [2]) .ret)))), false⟩

/-! quire/metric.wide -/
@[simp] def f30r0 : List ROper := [
  ⟨some 4, .mv (.c (.int .i64 (.ofNat 0))), none⟩]
@[simp] def f30r1 : List ROper := [
  ⟨some 5, .mv (.t 0), none⟩,
  ⟨some 6, .call 21 [(.t 5)], none⟩,
  ⟨some 7, .mv (.t 1), none⟩,
  ⟨some 8, .bin .mul (.t 6) (.t 7), none⟩,
  ⟨some 9, .bin .quo (.t 8) (.c (.int .i64 (.ofNat 8))), none⟩,
  ⟨some 4, .mv (.t 9), none⟩]
def f30 : RFunc := ⟨[.t 4], (.seq (.region f30r0 [0, 1]) (.seq (.region f30r1 [4]) .ret)), true⟩

/-! quire/metric.text -/
@[simp] def f31r0 : List ROper := [
  ⟨some 4, .mv (.c (.int .i64 (.ofNat 0))), none⟩]
@[simp] def f31r1 : List ROper := [
  ⟨some 5, .mv (.c (.int .i64 (.ofNat 0))), none⟩]
@[simp] def f31r2 : List ROper := [
  ⟨some 8, .mv (.t 0), none⟩,
  ⟨some 9, .s2b (.t 8), none⟩,
  ⟨some 10, .len .slice (.t 9), none⟩,
  ⟨some 11, .mv (.c (.int .i64 (.ofNat 0))), none⟩]
@[simp] def f31r3 : List ROper := [
  ⟨some 12, .bin .lss (.t 11) (.t 10), none⟩]
@[simp] def f31r4 : List ROper := [
  ⟨some 13, .iaddr 1 (.t 9) (.t 11), none⟩,
  ⟨some 14, .load 1 false (.t 13), none⟩,
  ⟨some 7, .mv (.t 14), none⟩]
@[simp] def f31r5 : List ROper := [
  ⟨some 15, .mv (.t 5), none⟩,
  ⟨some 16, .mv (.t 7), none⟩,
  ⟨some 17, .mv (.t 1), none⟩,
  ⟨some 18, .call 30 [(.t 16), (.t 17)], none⟩,
  ⟨some 19, .bin .add (.t 15) (.t 18), none⟩,
  ⟨some 5, .mv (.t 19), none⟩]
@[simp] def f31r6 : List ROper := [
  ⟨some 20, .bin .add (.t 11) (.c (.int .i64 (.ofNat 1))), none⟩,
  ⟨some 11, .mv (.t 20), none⟩]
def f31B0 : RC := (.seq (.region f31r3 [1, 5, 9, 10, 11, 12]) (.seq (.cond (.t 12) .skip (.exit 0)) (.seq (.block 1 (.seq (.region f31r4 [1, 5, 7, 9, 10, 11]) (.region f31r5 [1, 5, 9, 10, 11]))) (.region f31r6 [1, 5, 9, 10, 11]))))
def f31L0 : RC := .loop [1, 5, 9, 10, 11] f31B0
@[simp] def f31r7 : List ROper := [
  ⟨some 21, .mv (.t 5), none⟩,
  ⟨some 4, .mv (.t 21), none⟩]
def f31 : RFunc := ⟨[.t 4], (.seq (.region f31r0 [0, 1]) (.seq (.region f31r1 [0, 1, 5]) (.seq (.seq (.region f31r2 [1, 5, 9, 10, 11]) (.block 0 f31L0)) (.seq (.region f31r7 [4]) .ret)))), true⟩

/-! quire/metric.nearer -/
@[simp] def f32r0 : List ROper := [
  ⟨some 6, .mv (.c (.int .i64 (.ofNat 0))), none⟩]
@[simp] def f32r1 : List ROper := [
  ⟨some 7, .mv (.c (.int .i64 (.ofNat 0))), none⟩]
@[simp] def f32r2 : List ROper := [
  ⟨some 8, .mv (.t 0), none⟩,
  ⟨some 9, .mv (.t 1), none⟩,
  ⟨some 10, .call 57 [(.c (.str [65, 84, 32, 65, 86, 32, 65, 87, 32, 65, 89, 32, 84, 65, 32, 86, 65, 32, 87, 65, 32, 89, 65, 32, 76, 84, 32, 76, 86, 32, 76, 89, 32, 80, 65, 32, 84, 111, 32, 84, 97, 32, 84, 101, 32, 86, 111, 32, 86, 97, 32, 89, 111, 32, 89, 97, 32])), (.t 8), (.t 9)], none⟩]
@[simp] def f32r3 : List ROper := [
  ⟨some 7, .mv (.c (.int .i64 (.ofNat 2))), none⟩]
@[simp] def f32r4 : List ROper := [
  ⟨some 11, .mv (.t 0), none⟩,
  ⟨some 12, .mv (.t 1), none⟩,
  ⟨some 13, .call 57 [(.c (.str [114, 46, 32, 114, 44, 32, 102, 46, 32, 102, 44, 32, 118, 46, 32, 121, 46, 32, 65, 118, 32, 65, 121, 32, 111, 118, 32, 118, 111, 32])), (.t 11), (.t 12)], none⟩]
@[simp] def f32r5 : List ROper := [
  ⟨some 7, .mv (.c (.int .i64 (.ofNat 1))), none⟩]
@[simp] def f32r6 : List ROper := [
  ⟨some 14, .mv (.t 7), none⟩,
  ⟨some 15, .mv (.t 2), none⟩,
  ⟨some 16, .bin .mul (.t 14) (.t 15), none⟩,
  ⟨some 17, .bin .quo (.t 16) (.c (.int .i64 (.ofNat 16))), none⟩,
  ⟨some 18, .un .neg (.t 17), none⟩,
  ⟨some 6, .mv (.t 18), none⟩]
def f32 : RFunc := ⟨[.t 6], (.seq (.region f32r0 [0, 1, 2]) (.seq (.region f32r1 [0, 1, 2, 7]) (.seq (.seq (.region f32r2 [0, 1, 2, 7, 10]) (.cond (.t 10) (.region f32r3 [0, 1, 2, 7]) .skip)) (.seq (.seq (.region f32r4 [2, 7, 13]) (.cond (.t 13) (.region f32r5 [2, 7]) .skip)) (.seq (.region f32r6 [6]) .ret))))), true⟩

/-! quire/quireref06.Split -/
@[simp] def f33r0 : List ROper := [
  ⟨some 2, .mv (.c (.list 0 0 .no false [])), none⟩,
  ⟨some 3, .mv (.c (.int .i64 (.ofNat 0))), none⟩]
@[simp] def f33r1 : List ROper := [
  ⟨some 8, .mv (.t 0), none⟩,
  ⟨some 9, .call 45 [(.t 8)], none⟩,
  ⟨some 4, .mv (.t 9), none⟩]
@[simp] def f33r2 : List ROper := [
  ⟨some 10, .mv (.t 4), none⟩,
  ⟨some 11, .bin .neq (.t 10) (.c (.int .i64 (.ofNat 0))), none⟩]
@[simp] def f33r3 : List ROper := [
  ⟨some 12, .mv (.t 4), none⟩,
  ⟨some 2, .mv (.c (.list 0 0 .no false [])), none⟩,
  ⟨some 3, .mv (.t 12), none⟩]
@[simp] def f33r4 : List ROper := [
  ⟨some 5, .mv (.c (.list 0 0 .no false [])), none⟩]
@[simp] def f33r5 : List ROper := [
  ⟨some 6, .mv (.c (.int .i64 (.ofNat 0))), none⟩]
@[simp] def f33r6 : List ROper := [
  ⟨some 13, .mv (.t 6), none⟩,
  ⟨some 14, .mv (.t 0), none⟩,
  ⟨some 15, .len .str (.t 14), none⟩,
  ⟨some 16, .bin .lss (.t 13) (.t 15), none⟩]
@[simp] def f33r7 : List ROper := [
  ⟨some 17, .mv (.t 6), none⟩,
  ⟨some 18, .mv (.t 6), none⟩,
  ⟨some 19, .bin .add (.t 18) (.c (.int .i64 (.ofNat 1))), none⟩,
  ⟨some 20, .mv (.t 0), none⟩,
  ⟨some 21, .mv (.t 6), none⟩,
  ⟨some 22, .index (.t 20) (.t 21), none⟩,
  ⟨some 23, .call 58 [(.t 22)], none⟩,
  ⟨some 24, .build [(.int .i64 (.ofNat 0)), (.int .i64 (.ofNat 0)), (.int .i64 (.ofNat 0))] [(0, 1, (.t 17)), (1, 1, (.t 19)), (2, 1, (.t 23))], none⟩,
  ⟨some 7, .alloc [(.int .i64 (.ofNat 0)), (.int .i64 (.ofNat 0)), (.int .i64 (.ofNat 0))], none⟩,
  ⟨none, .store 3 (.t 7) (.t 24), none⟩]
@[simp] def f33r8 : List ROper := [
  ⟨some 25, .faddr 2 (.t 7), none⟩,
  ⟨some 26, .load 1 false (.t 25), none⟩,
  ⟨some 27, .bin .eql (.t 26) (.c (.int .i64 (.ofNat 1))), none⟩,
  ⟨some 28, .mv (.t 27), none⟩,
  ⟨some 29, .faddr 1 (.t 7), some (28, true)⟩,
  ⟨some 30, .load 1 false (.t 29), some (28, true)⟩,
  ⟨some 31, .mv (.t 0), some (28, true)⟩,
  ⟨some 32, .len .str (.t 31), some (28, true)⟩,
  ⟨some 33, .bin .lss (.t 30) (.t 32), some (28, true)⟩,
  ⟨some 34, .pick (.t 28) (.t 33) (.c (.bool false)), none⟩,
  ⟨some 35, .mv (.t 34), none⟩,
  ⟨some 36, .faddr 1 (.t 7), some (35, true)⟩,
  ⟨some 37, .load 1 false (.t 36), some (35, true)⟩,
  ⟨some 38, .mv (.t 6), some (35, true)⟩,
  ⟨some 39, .bin .add (.t 38) (.c (.int .i64 (.ofNat 3))), some (35, true)⟩,
  ⟨some 40, .bin .lss (.t 37) (.t 39), some (35, true)⟩,
  ⟨some 41, .pick (.t 35) (.t 40) (.c (.bool false)), none⟩,
  ⟨some 42, .mv (.t 41), none⟩,
  ⟨some 43, .mv (.t 0), some (42, true)⟩,
  ⟨some 44, .faddr 1 (.t 7), some (42, true)⟩,
  ⟨some 45, .load 1 false (.t 44), some (42, true)⟩,
  ⟨some 46, .index (.t 43) (.t 45), some (42, true)⟩,
  ⟨some 47, .call 59 [(.t 46)], some (42, true)⟩,
  ⟨some 48, .pick (.t 42) (.t 47) (.c (.bool false)), none⟩]
@[simp] def f33r9 : List ROper := [
  ⟨some 49, .faddr 1 (.t 7), none⟩,
  ⟨some 50, .load 1 false (.t 49), none⟩,
  ⟨some 51, .bin .add (.t 50) (.c (.int .i64 (.ofNat 1))), none⟩,
  ⟨some 52, .faddr 1 (.t 7), none⟩,
  ⟨none, .store 1 (.t 52) (.t 51), none⟩]
def f33B0 : RC := (.seq (.seq (.region f33r8 [0, 5, 6, 7, 48]) (.cond (.t 48) .skip (.exit 2))) (.block 3 (.region f33r9 [0, 5, 6, 7])))
def f33L0 : RC := .loop [0, 5, 6, 7] f33B0
@[simp] def f33r10 : List ROper := [
  ⟨some 53, .mv (.t 5), none⟩,
  ⟨some 54, .load 3 true (.t 7), none⟩,
  ⟨some 55, .lit 3 true [(.int .i64 (.ofNat 0)), (.int .i64 (.ofNat 0)), (.int .i64 (.ofNat 0))] 1 [(0, (.t 54))], none⟩,
  ⟨some 56, .append 3 true 24 (.t 53) (.t 55), none⟩,
  ⟨some 5, .mv (.t 56), none⟩]
@[simp] def f33r11 : List ROper := [
  ⟨some 57, .faddr 1 (.t 7), none⟩,
  ⟨some 58, .load 1 false (.t 57), none⟩,
  ⟨some 6, .mv (.t 58), none⟩]
def f33B1 : RC := (.seq (.seq (.region f33r6 [0, 5, 6, 16]) (.cond (.t 16) .skip (.exit 0))) (.block 1 (.seq (.region f33r7 [0, 5, 6, 7]) (.seq (.block 2 f33L0) (.seq (.region f33r10 [0, 5, 7]) (.region f33r11 [0, 5, 6]))))))
def f33L1 : RC := .loop [0, 5, 6] f33B1
@[simp] def f33r12 : List ROper := [
  ⟨some 59, .mv (.t 5), none⟩,
  ⟨some 2, .mv (.t 59), none⟩,
  ⟨some 3, .mv (.c (.int .i64 (.ofNat 0))), none⟩]
def f33 : RFunc := ⟨[.t 2, .t 3], (.seq (.region f33r0 [0]) (.seq (.region f33r1 [0, 4]) (.seq (.seq (.region f33r2 [0, 4, 11]) (.cond (.t 11) (.seq (.region f33r3 [2, 3]) .ret) .skip)) (.seq (.region f33r4 [0, 5]) (.seq (.region f33r5 [0, 5, 6]) (.seq (.block 0 f33L1) (.seq (.region f33r12 [2, 3]) .ret))))))), true⟩

/-! quire/quireref07.Size -/
@[simp] def f34r0 : List ROper := [
  ⟨some 2, .box 21 (.t 0), none⟩,
  ⟨some 4, .mv (.c (.int .i64 (.ofNat 0))), none⟩]
@[simp] def f34r1 : List ROper := [
  ⟨some 6, .load 21 true (.t 2), none⟩,
  ⟨some 7, .mv (.t 1), none⟩,
  ⟨some 8, .call 35 [(.t 6), (.t 7)], none⟩,
  ⟨some 9, .field 1 false 0 (.t 8), none⟩,
  ⟨some 5, .mv (.t 9), none⟩]
@[simp] def f34r2 : List ROper := [
  ⟨some 10, .mv (.t 5), none⟩,
  ⟨some 11, .bin .eql (.t 10) (.c (.int .i64 (.ofNat 0))), none⟩]
@[simp] def f34r3 : List ROper := [
  ⟨some 12, .faddr 2 (.t 2), none⟩,
  ⟨some 13, .faddr 0 (.t 12), none⟩,
  ⟨some 14, .load 1 false (.t 13), none⟩,
  ⟨some 4, .mv (.t 14), none⟩]
@[simp] def f34r4 : List ROper := [
  ⟨some 15, .mv (.t 5), none⟩,
  ⟨some 4, .mv (.t 15), none⟩]
def f34 : RFunc := ⟨[.t 4], (.seq (.region f34r0 [1, 2]) (.seq (.region f34r1 [2, 5]) (.seq (.seq (.region f34r2 [2, 5, 11]) (.cond (.t 11) (.seq (.region f34r3 [4]) .ret) .skip)) (.seq (.region f34r4 [4]) .ret)))), true⟩

/-! quire/quireref07.Look -/
@[simp] def f35r0 : List ROper := [
  ⟨some 2, .box 21 (.t 0), none⟩,
  ⟨some 4, .alloc [(.int .i64 (.ofNat 0)), (.int .i64 (.ofNat 0)), (.int .i64 (.ofNat 0))], none⟩]
@[simp] def f35r1 : List ROper := [
  ⟨some 5, .mv (.c (.int .i64 (.ofNat 0))), none⟩]
@[simp] def f35r2 : List ROper := [
  ⟨some 6, .mv (.c (.int .i64 (.ofNat 0))), none⟩]
@[simp] def f35r3 : List ROper := [
  ⟨some 7, .mv (.t 6), none⟩,
  ⟨some 8, .faddr 1 (.t 2), none⟩,
  ⟨some 9, .load 1 false (.t 8), none⟩,
  ⟨some 10, .len .slice (.t 9), none⟩,
  ⟨some 11, .bin .lss (.t 7) (.t 10), none⟩]
@[simp] def f35r4 : List ROper := [
  ⟨some 14, .mv (.t 5), none⟩,
  ⟨some 15, .faddr 1 (.t 2), none⟩,
  ⟨some 16, .load 1 false (.t 15), none⟩,
  ⟨some 17, .mv (.t 6), none⟩,
  ⟨some 18, .iaddr 4 (.t 16) (.t 17), none⟩,
  ⟨some 19, .faddr 0 (.t 18), none⟩,
  ⟨some 20, .load 1 false (.t 19), none⟩,
  ⟨some 21, .bin .add (.t 14) (.t 20), none⟩,
  ⟨some 5, .mv (.t 21), none⟩]
@[simp] def f35r5 : List ROper := [
  ⟨some 22, .mv (.t 1), none⟩,
  ⟨some 23, .mv (.t 5), none⟩,
  ⟨some 24, .bin .lss (.t 22) (.t 23), none⟩]
@[simp] def f35r6 : List ROper := [
  ⟨some 25, .faddr 1 (.t 2), none⟩,
  ⟨some 26, .load 1 false (.t 25), none⟩,
  ⟨some 27, .mv (.t 6), none⟩,
  ⟨some 28, .iaddr 4 (.t 26) (.t 27), none⟩,
  ⟨some 29, .faddr 1 (.t 28), none⟩,
  ⟨some 30, .load 3 true (.t 29), none⟩,
  ⟨none, .store 3 (.t 4) (.t 30), none⟩]
@[simp] def f35r7 : List ROper := [
  ⟨some 12, .mv (.t 6), none⟩,
  ⟨some 13, .bin .add (.t 12) (.c (.int .i64 (.ofNat 1))), none⟩,
  ⟨some 6, .mv (.t 13), none⟩]
def f35B0 : RC := (.seq (.seq (.region f35r3 [1, 2, 4, 5, 6, 11]) (.cond (.t 11) .skip (.exit 0))) (.seq (.block 1 (.seq (.region f35r4 [1, 2, 4, 5, 6]) (.seq (.region f35r5 [1, 2, 4, 5, 6, 24]) (.cond (.t 24) (.seq (.region f35r6 [4]) .ret) .skip)))) (.region f35r7 [1, 2, 4, 5, 6])))
def f35L0 : RC := .loop [1, 2, 4, 5, 6] f35B0
@[simp] def f35r8 : List ROper := [
  ⟨some 31, .build [(.int .i64 (.ofNat 0)), (.int .i64 (.ofNat 0)), (.int .i64 (.ofNat 0))] [], none⟩,
  ⟨none, .store 3 (.t 4) (.t 31), none⟩]
def f35 : RFunc := ⟨[.cell 4 3 true], (.seq (.region f35r0 [1, 2, 4]) (.seq (.region f35r1 [1, 2, 4, 5]) (.seq (.seq (.region f35r2 [1, 2, 4, 5, 6]) (.block 0 f35L0)) (.seq (.region f35r8 [4]) .ret)))), true⟩

/-! quire/quireref07.visible -/
@[simp] def f36r0 : List ROper := [
  ⟨some 2, .mv (.c (.bool false)), none⟩]
@[simp] def f36r1 : List ROper := [
  ⟨some 3, .mv (.t 0), none⟩,
  ⟨some 4, .bin .eql (.t 3) (.c (.int .i64 (.ofNat 1))), none⟩,
  ⟨some 5, .mv (.t 4), none⟩,
  ⟨some 6, .mv (.t 0), some (5, false)⟩,
  ⟨some 7, .bin .eql (.t 6) (.c (.int .i64 (.ofNat 2))), some (5, false)⟩,
  ⟨some 8, .pick (.t 5) (.c (.bool true)) (.t 7), none⟩,
  ⟨some 2, .mv (.t 8), none⟩]
def f36 : RFunc := ⟨[.t 2], (.seq (.region f36r0 [0]) (.seq (.region f36r1 [2]) .ret)), true⟩

/-! quire/quireref07.ByteWidth -/
@[simp] def f37r0 : List ROper := [
  ⟨some 4, .mv (.c (.int .i64 (.ofNat 0))), none⟩]
@[simp] def f37r1 : List ROper := [
  ⟨some 5, .mv (.t 0), none⟩,
  ⟨some 6, .call 22 [(.t 5)], none⟩,
  ⟨some 7, .mv (.t 1), none⟩,
  ⟨some 8, .bin .mul (.t 6) (.t 7), none⟩,
  ⟨some 9, .bin .quo (.t 8) (.c (.int .i64 (.ofNat 8))), none⟩,
  ⟨some 4, .mv (.t 9), none⟩]
def f37 : RFunc := ⟨[.t 4], (.seq (.region f37r0 [0, 1]) (.seq (.region f37r1 [4]) .ret)), true⟩

/-! quire/quireref07.TextWidth -/
@[simp] def f38r0 : List ROper := [
  ⟨some 4, .mv (.c (.int .i64 (.ofNat 0))), none⟩]
@[simp] def f38r1 : List ROper := [
  ⟨some 5, .mv (.c (.int .i64 (.ofNat 0))), none⟩]
@[simp] def f38r2 : List ROper := [
  ⟨some 6, .mv (.c (.int .i64 (.ofNat 0))), none⟩]
@[simp] def f38r3 : List ROper := [
  ⟨some 7, .mv (.t 6), none⟩,
  ⟨some 8, .mv (.t 0), none⟩,
  ⟨some 9, .len .str (.t 8), none⟩,
  ⟨some 10, .bin .lss (.t 7) (.t 9), none⟩]
@[simp] def f38r4 : List ROper := [
  ⟨some 13, .mv (.t 5), none⟩,
  ⟨some 14, .mv (.t 0), none⟩,
  ⟨some 15, .mv (.t 6), none⟩,
  ⟨some 16, .index (.t 14) (.t 15), none⟩,
  ⟨some 17, .mv (.t 1), none⟩,
  ⟨some 18, .call 37 [(.t 16), (.t 17)], none⟩,
  ⟨some 19, .bin .add (.t 13) (.t 18), none⟩,
  ⟨some 5, .mv (.t 19), none⟩]
@[simp] def f38r5 : List ROper := [
  ⟨some 11, .mv (.t 6), none⟩,
  ⟨some 12, .bin .add (.t 11) (.c (.int .i64 (.ofNat 1))), none⟩,
  ⟨some 6, .mv (.t 12), none⟩]
def f38B0 : RC := (.seq (.seq (.region f38r3 [0, 1, 5, 6, 10]) (.cond (.t 10) .skip (.exit 0))) (.seq (.block 1 (.region f38r4 [0, 1, 5, 6])) (.region f38r5 [0, 1, 5, 6])))
def f38L0 : RC := .loop [0, 1, 5, 6] f38B0
@[simp] def f38r6 : List ROper := [
  ⟨some 20, .mv (.t 5), none⟩,
  ⟨some 4, .mv (.t 20), none⟩]
def f38 : RFunc := ⟨[.t 4], (.seq (.region f38r0 [0, 1]) (.seq (.region f38r1 [0, 1, 5]) (.seq (.seq (.region f38r2 [0, 1, 5, 6]) (.block 0 f38L0)) (.seq (.region f38r6 [4]) .ret)))), true⟩

/-! quire/quireref07.Pair -/
@[simp] def f39r0 : List ROper := [
  ⟨some 6, .mv (.c (.int .i64 (.ofNat 0))), none⟩]
@[simp] def f39r1 : List ROper := [
  ⟨some 8, .mv (.t 0), none⟩,
  ⟨some 9, .mv (.t 1), none⟩,
  ⟨some 10, .lit 1 false [(.int .u8 (.ofNat 0))] 2 [(0, (.t 8)), (1, (.t 9))], none⟩,
  ⟨some 11, .b2s (.t 10), none⟩,
  ⟨some 7, .mv (.t 11), none⟩]
@[simp] def f39r2 : List ROper := [
  ⟨some 12, .lit 1 false [(.str [])] 19 [(0, (.c (.str [65, 84]))), (1, (.c (.str [65, 86]))), (2, (.c (.str [65, 87]))), (3, (.c (.str [65, 89]))), (4, (.c (.str [84, 65]))), (5, (.c (.str [86, 65]))), (6, (.c (.str [87, 65]))), (7, (.c (.str [89, 65]))), (8, (.c (.str [76, 84]))), (9, (.c (.str [76, 86]))), (10, (.c (.str [76, 89]))), (11, (.c (.str [80, 65]))), (12, (.c (.str [84, 111]))), (13, (.c (.str [84, 97]))), (14, (.c (.str [84, 101]))), (15, (.c (.str [86, 111]))), (16, (.c (.str [86, 97]))), (17, (.c (.str [89, 111]))), (18, (.c (.str [89, 97])))], none⟩,
  ⟨some 13, .mv (.t 7), none⟩,
  ⟨some 14, .call 60 [(.t 12), (.t 13)], none⟩]
@[simp] def f39r3 : List ROper := [
  ⟨some 15, .mv (.t 2), none⟩,
  ⟨some 16, .bin .mul (.c (.int .i64 (.ofNat 2))) (.t 15), none⟩,
  ⟨some 17, .bin .quo (.t 16) (.c (.int .i64 (.ofNat 16))), none⟩,
  ⟨some 18, .un .neg (.t 17), none⟩,
  ⟨some 6, .mv (.t 18), none⟩]
@[simp] def f39r4 : List ROper := [
  ⟨some 19, .lit 1 false [(.str [])] 10 [(0, (.c (.str [114, 46]))), (1, (.c (.str [114, 44]))), (2, (.c (.str [102, 46]))), (3, (.c (.str [102, 44]))), (4, (.c (.str [118, 46]))), (5, (.c (.str [121, 46]))), (6, (.c (.str [65, 118]))), (7, (.c (.str [65, 121]))), (8, (.c (.str [111, 118]))), (9, (.c (.str [118, 111])))], none⟩,
  ⟨some 20, .mv (.t 7), none⟩,
  ⟨some 21, .call 60 [(.t 19), (.t 20)], none⟩]
@[simp] def f39r5 : List ROper := [
  ⟨some 22, .mv (.t 2), none⟩,
  ⟨some 23, .bin .quo (.t 22) (.c (.int .i64 (.ofNat 16))), none⟩,
  ⟨some 24, .un .neg (.t 23), none⟩,
  ⟨some 6, .mv (.t 24), none⟩]
@[simp] def f39r6 : List ROper := [
  ⟨some 6, .mv (.c (.int .i64 (.ofNat 0))), none⟩]
def f39 : RFunc := ⟨[.t 6], (.seq (.region f39r0 [0, 1, 2]) (.seq (.region f39r1 [2, 7]) (.seq (.seq (.region f39r2 [2, 7, 14]) (.cond (.t 14) (.seq (.region f39r3 [6]) .ret) .skip)) (.seq (.seq (.region f39r4 [2, 21]) (.cond (.t 21) (.seq (.region f39r5 [6]) .ret) .skip)) (.seq (.region f39r6 [6]) .ret))))), true⟩

/-! strings.IndexByte -/
@[simp] def f40r0 : List ROper := [
  ⟨some 4, .mv (.c (.int .i64 (.ofNat 0))), none⟩]
@[simp] def f40r1 : List ROper := [
  ⟨some 5, .mv (.t 0), none⟩,
  ⟨some 6, .mv (.t 1), none⟩,
  ⟨some 7, .call 61 [(.t 5), (.t 6)], none⟩,
  ⟨some 4, .mv (.t 7), none⟩]
def f40 : RFunc := ⟨[.t 4], (.seq (.region f40r0 [0, 1]) (.seq (.region f40r1 [4]) .ret)), true⟩

/-! quire/metric.spans -/
@[simp] def f41r0 : List ROper := [
  ⟨some 4, .mv (.c (.bool false)), none⟩]
@[simp] def f41r1 : List ROper := [
  ⟨some 7, .mv (.t 0), none⟩,
  ⟨some 8, .len .slice (.t 7), none⟩,
  ⟨some 9, .mv (.c (.int .i64 (.ofNat 0))), none⟩]
@[simp] def f41r2 : List ROper := [
  ⟨some 10, .bin .lss (.t 9) (.t 8), none⟩]
@[simp] def f41r3 : List ROper := [
  ⟨some 11, .iaddr 4 (.t 7) (.t 9), none⟩,
  ⟨some 12, .load 4 true (.t 11), none⟩,
  ⟨some 6, .alloc [(.int .i64 (.ofNat 0)), (.int .i64 (.ofNat 0)), (.int .i64 (.ofNat 0)), (.int .i64 (.ofNat 0))], none⟩,
  ⟨none, .store 4 (.t 6) (.t 12), none⟩]
@[simp] def f41r4 : List ROper := [
  ⟨some 13, .faddr 0 (.t 6), none⟩,
  ⟨some 14, .load 1 false (.t 13), none⟩,
  ⟨some 15, .bin .lss (.t 14) (.c (.int .i64 (.ofNat 1))), none⟩,
  ⟨some 16, .mv (.t 15), none⟩,
  ⟨some 17, .faddr 0 (.t 6), some (16, false)⟩,
  ⟨some 18, .load 1 false (.t 17), some (16, false)⟩,
  ⟨some 19, .mv (.t 1), some (16, false)⟩,
  ⟨some 20, .bin .gtr (.t 18) (.t 19), some (16, false)⟩,
  ⟨some 21, .pick (.t 16) (.c (.bool true)) (.t 20), none⟩,
  ⟨some 22, .mv (.t 21), none⟩,
  ⟨some 23, .faddr 1 (.t 6), some (22, false)⟩,
  ⟨some 24, .load 3 true (.t 23), some (22, false)⟩,
  ⟨some 25, .call 62 [(.t 24)], some (22, false)⟩,
  ⟨some 26, .un .not (.t 25), some (22, false)⟩,
  ⟨some 27, .pick (.t 22) (.c (.bool true)) (.t 26), none⟩]
@[simp] def f41r5 : List ROper := [
  ⟨some 4, .mv (.c (.bool false)), none⟩]
@[simp] def f41r6 : List ROper := [
  ⟨some 28, .mv (.t 1), none⟩,
  ⟨some 29, .faddr 0 (.t 6), none⟩,
  ⟨some 30, .load 1 false (.t 29), none⟩,
  ⟨some 31, .bin .sub (.t 28) (.t 30), none⟩,
  ⟨some 1, .mv (.t 31), none⟩]
@[simp] def f41r7 : List ROper := [
  ⟨some 32, .bin .add (.t 9) (.c (.int .i64 (.ofNat 1))), none⟩,
  ⟨some 9, .mv (.t 32), none⟩]
def f41B0 : RC := (.seq (.region f41r2 [1, 7, 8, 9, 10]) (.seq (.cond (.t 10) .skip (.exit 0)) (.seq (.block 1 (.seq (.region f41r3 [1, 6, 7, 8, 9]) (.seq (.seq (.region f41r4 [1, 6, 7, 8, 9, 27]) (.cond (.t 27) (.seq (.region f41r5 [4]) .ret) .skip)) (.region f41r6 [1, 7, 8, 9])))) (.region f41r7 [1, 7, 8, 9]))))
def f41L0 : RC := .loop [1, 7, 8, 9] f41B0
@[simp] def f41r8 : List ROper := [
  ⟨some 33, .mv (.t 1), none⟩,
  ⟨some 34, .bin .eql (.t 33) (.c (.int .i64 (.ofNat 0))), none⟩,
  ⟨some 4, .mv (.t 34), none⟩]
def f41 : RFunc := ⟨[.t 4], (.seq (.region f41r0 [0, 1]) (.seq (.seq (.region f41r1 [1, 7, 8, 9]) (.block 0 f41L0)) (.seq (.region f41r8 [4]) .ret))), true⟩

/-! quire/metric.props -/
@[simp] def f42r0 : List ROper := [
  ⟨some 1, .box 17 (.t 0), none⟩,
  ⟨some 2, .mv (.c (.bool false)), none⟩]
@[simp] def f42r1 : List ROper := [
  ⟨some 5, .faddr 0 (.t 1), none⟩,
  ⟨some 6, .load 1 false (.t 5), none⟩,
  ⟨some 7, .build [(.int .i64 (.ofNat 0)), (.int .i64 (.ofNat 0)), (.int .i64 (.ofNat 0))] [(0, 1, (.t 6)), (1, 1, (.c (.int .i64 (.ofNat 1)))), (2, 1, (.c (.int .i64 (.ofNat 64))))], none⟩,
  ⟨some 8, .faddr 1 (.t 1), none⟩,
  ⟨some 9, .load 1 false (.t 8), none⟩,
  ⟨some 10, .build [(.int .i64 (.ofNat 0)), (.int .i64 (.ofNat 0)), (.int .i64 (.ofNat 0))] [(0, 1, (.t 9)), (1, 1, (.c (.int .i64 (.ofNat 1)))), (2, 1, (.c (.int .i64 (.ofNat 255))))], none⟩,
  ⟨some 11, .faddr 2 (.t 1), none⟩,
  ⟨some 12, .load 1 false (.t 11), none⟩,
  ⟨some 13, .build [(.int .i64 (.ofNat 0)), (.int .i64 (.ofNat 0)), (.int .i64 (.ofNat 0))] [(0, 1, (.t 12)), (1, 1, (.c (.int .i64 (.ofNat 0)))), (2, 1, (.c (.int .i64 (.ofNat 3))))], none⟩,
  ⟨some 14, .faddr 3 (.t 1), none⟩,
  ⟨some 15, .load 1 false (.t 14), none⟩,
  ⟨some 16, .build [(.int .i64 (.ofNat 0)), (.int .i64 (.ofNat 0)), (.int .i64 (.ofNat 0))] [(0, 1, (.t 15)), (1, 1, (.c (.int .i64 (.ofNat 0)))), (2, 1, (.c (.int .i64 (.ofNat 255))))], none⟩,
  ⟨some 17, .faddr 4 (.t 1), none⟩,
  ⟨some 18, .load 1 false (.t 17), none⟩,
  ⟨some 19, .build [(.int .i64 (.ofNat 0)), (.int .i64 (.ofNat 0)), (.int .i64 (.ofNat 0))] [(0, 1, (.t 18)), (1, 1, (.c (.int .i64 (.ofNat 0)))), (2, 1, (.c (.int .i64 (.ofNat 255))))], none⟩,
  ⟨some 20, .faddr 5 (.t 1), none⟩,
  ⟨some 21, .load 1 false (.t 20), none⟩,
  ⟨some 22, .build [(.int .i64 (.ofNat 0)), (.int .i64 (.ofNat 0)), (.int .i64 (.ofNat 0))] [(0, 1, (.t 21)), (1, 1, (.c (.int .i64 (.ofNat 0)))), (2, 1, (.c (.int .i64 (.ofNat 255))))], none⟩,
  ⟨some 23, .faddr 6 (.t 1), none⟩,
  ⟨some 24, .load 1 false (.t 23), none⟩,
  ⟨some 25, .build [(.int .i64 (.ofNat 0)), (.int .i64 (.ofNat 0)), (.int .i64 (.ofNat 0))] [(0, 1, (.t 24)), (1, 1, (.c (.int .i64 (.ofNat 0)))), (2, 1, (.c (.int .i64 (.ofNat 255))))], none⟩,
  ⟨some 26, .faddr 7 (.t 1), none⟩,
  ⟨some 27, .load 1 false (.t 26), none⟩,
  ⟨some 28, .build [(.int .i64 (.ofNat 0)), (.int .i64 (.ofNat 0)), (.int .i64 (.ofNat 0))] [(0, 1, (.t 27)), (1, 1, (.c (.int .i64 (.ofNat 0)))), (2, 1, (.c (.int .i64 (.ofNat 255))))], none⟩,
  ⟨some 29, .faddr 8 (.t 1), none⟩,
  ⟨some 30, .load 1 false (.t 29), none⟩,
  ⟨some 31, .build [(.int .i64 (.ofNat 0)), (.int .i64 (.ofNat 0)), (.int .i64 (.ofNat 0))] [(0, 1, (.t 30)), (1, 1, (.c (.int .i64 (.ofNat 0)))), (2, 1, (.c (.int .i64 (.ofNat 1))))], none⟩,
  ⟨some 32, .faddr 9 (.t 1), none⟩,
  ⟨some 33, .load 1 false (.t 32), none⟩,
  ⟨some 34, .build [(.int .i64 (.ofNat 0)), (.int .i64 (.ofNat 0)), (.int .i64 (.ofNat 0))] [(0, 1, (.t 33)), (1, 1, (.c (.int .i64 (.ofNat 0)))), (2, 1, (.c (.int .i64 (.ofNat 1))))], none⟩,
  ⟨some 35, .faddr 10 (.t 1), none⟩,
  ⟨some 36, .load 1 false (.t 35), none⟩,
  ⟨some 37, .build [(.int .i64 (.ofNat 0)), (.int .i64 (.ofNat 0)), (.int .i64 (.ofNat 0))] [(0, 1, (.t 36)), (1, 1, (.c (.int .i64 (.ofNat 1)))), (2, 1, (.c (.int .i64 (.ofNat 4))))], none⟩,
  ⟨some 38, .faddr 11 (.t 1), none⟩,
  ⟨some 39, .load 1 false (.t 38), none⟩,
  ⟨some 40, .build [(.int .i64 (.ofNat 0)), (.int .i64 (.ofNat 0)), (.int .i64 (.ofNat 0))] [(0, 1, (.t 39)), (1, 1, (.c (.int .i64 (.ofNat 1)))), (2, 1, (.c (.int .i64 (.ofNat 4))))], none⟩,
  ⟨some 41, .faddr 12 (.t 1), none⟩,
  ⟨some 42, .load 1 false (.t 41), none⟩,
  ⟨some 43, .build [(.int .i64 (.ofNat 0)), (.int .i64 (.ofNat 0)), (.int .i64 (.ofNat 0))] [(0, 1, (.t 42)), (1, 1, (.c (.int .i64 (.ofNat 0)))), (2, 1, (.c (.int .i64 (.ofNat 1))))], none⟩,
  ⟨some 44, .faddr 13 (.t 1), none⟩,
  ⟨some 45, .load 1 false (.t 44), none⟩,
  ⟨some 46, .build [(.int .i64 (.ofNat 0)), (.int .i64 (.ofNat 0)), (.int .i64 (.ofNat 0))] [(0, 1, (.t 45)), (1, 1, (.c (.int .i64 (.ofNat 0)))), (2, 1, (.c (.int .i64 (.ofNat 1))))], none⟩,
  ⟨some 47, .faddr 14 (.t 1), none⟩,
  ⟨some 48, .load 1 false (.t 47), none⟩,
  ⟨some 49, .build [(.int .i64 (.ofNat 0)), (.int .i64 (.ofNat 0)), (.int .i64 (.ofNat 0))] [(0, 1, (.t 48)), (1, 1, (.c (.int .i64 (.ofNat 0)))), (2, 1, (.c (.int .i64 (.ofNat 4))))], none⟩,
  ⟨some 50, .faddr 15 (.t 1), none⟩,
  ⟨some 51, .load 1 false (.t 50), none⟩,
  ⟨some 52, .build [(.int .i64 (.ofNat 0)), (.int .i64 (.ofNat 0)), (.int .i64 (.ofNat 0))] [(0, 1, (.t 51)), (1, 1, (.c (.int .i64 (.ofNat 0)))), (2, 1, (.c (.int .i64 (.ofNat 8))))], none⟩,
  ⟨some 53, .faddr 16 (.t 1), none⟩,
  ⟨some 54, .load 1 false (.t 53), none⟩,
  ⟨some 55, .build [(.int .i64 (.ofNat 0)), (.int .i64 (.ofNat 0)), (.int .i64 (.ofNat 0))] [(0, 1, (.t 54)), (1, 1, (.c (.int .i64 (.ofNat 0)))), (2, 1, (.c (.int .i64 (.ofNat 3))))], none⟩,
  ⟨some 56, .build [(.int .i64 (.ofNat 0)), (.int .i64 (.ofNat 0)), (.int .i64 (.ofNat 0)), (.int .i64 (.ofNat 0)), (.int .i64 (.ofNat 0)), (.int .i64 (.ofNat 0)), (.int .i64 (.ofNat 0)), (.int .i64 (.ofNat 0)), (.int .i64 (.ofNat 0)), (.int .i64 (.ofNat 0)), (.int .i64 (.ofNat 0)), (.int .i64 (.ofNat 0)), (.int .i64 (.ofNat 0)), (.int .i64 (.ofNat 0)), (.int .i64 (.ofNat 0)), (.int .i64 (.ofNat 0)), (.int .i64 (.ofNat 0)), (.int .i64 (.ofNat 0)), (.int .i64 (.ofNat 0)), (.int .i64 (.ofNat 0)), (.int .i64 (.ofNat 0)), (.int .i64 (.ofNat 0)), (.int .i64 (.ofNat 0)), (.int .i64 (.ofNat 0)), (.int .i64 (.ofNat 0)), (.int .i64 (.ofNat 0)), (.int .i64 (.ofNat 0)), (.int .i64 (.ofNat 0)), (.int .i64 (.ofNat 0)), (.int .i64 (.ofNat 0)), (.int .i64 (.ofNat 0)), (.int .i64 (.ofNat 0)), (.int .i64 (.ofNat 0)), (.int .i64 (.ofNat 0)), (.int .i64 (.ofNat 0)), (.int .i64 (.ofNat 0)), (.int .i64 (.ofNat 0)), (.int .i64 (.ofNat 0)), (.int .i64 (.ofNat 0)), (.int .i64 (.ofNat 0)), (.int .i64 (.ofNat 0)), (.int .i64 (.ofNat 0)), (.int .i64 (.ofNat 0)), (.int .i64 (.ofNat 0)), (.int .i64 (.ofNat 0)), (.int .i64 (.ofNat 0)), (.int .i64 (.ofNat 0)), (.int .i64 (.ofNat 0)), (.int .i64 (.ofNat 0)), (.int .i64 (.ofNat 0)), (.int .i64 (.ofNat 0))] [(0, 3, (.t 7)), (3, 3, (.t 10)), (6, 3, (.t 13)), (9, 3, (.t 16)), (12, 3, (.t 19)), (15, 3, (.t 22)), (18, 3, (.t 25)), (21, 3, (.t 28)), (24, 3, (.t 31)), (27, 3, (.t 34)), (30, 3, (.t 37)), (33, 3, (.t 40)), (36, 3, (.t 43)), (39, 3, (.t 46)), (42, 3, (.t 49)), (45, 3, (.t 52)), (48, 3, (.t 55))], none⟩,
  ⟨some 57, .mv (.c (.int .i64 (.ofNat 0))), none⟩]
@[simp] def f42r2 : List ROper := [
  ⟨some 58, .bin .lss (.t 57) (.c (.int .i64 (.ofNat 17))), none⟩]
@[simp] def f42r3 : List ROper := [
  ⟨some 59, .indexA 3 true 17 (.t 56) (.t 57), none⟩,
  ⟨some 4, .alloc [(.int .i64 (.ofNat 0)), (.int .i64 (.ofNat 0)), (.int .i64 (.ofNat 0))], none⟩,
  ⟨none, .store 3 (.t 4) (.t 59), none⟩]
@[simp] def f42r4 : List ROper := [
  ⟨some 60, .faddr 0 (.t 4), none⟩,
  ⟨some 61, .load 1 false (.t 60), none⟩,
  ⟨some 62, .faddr 1 (.t 4), none⟩,
  ⟨some 63, .load 1 false (.t 62), none⟩,
  ⟨some 64, .bin .lss (.t 61) (.t 63), none⟩,
  ⟨some 65, .mv (.t 64), none⟩,
  ⟨some 66, .faddr 0 (.t 4), some (65, false)⟩,
  ⟨some 67, .load 1 false (.t 66), some (65, false)⟩,
  ⟨some 68, .faddr 2 (.t 4), some (65, false)⟩,
  ⟨some 69, .load 1 false (.t 68), some (65, false)⟩,
  ⟨some 70, .bin .gtr (.t 67) (.t 69), some (65, false)⟩,
  ⟨some 71, .pick (.t 65) (.c (.bool true)) (.t 70), none⟩]
@[simp] def f42r5 : List ROper := [
  ⟨some 2, .mv (.c (.bool false)), none⟩]
@[simp] def f42r6 : List ROper := [
  ⟨some 72, .bin .add (.t 57) (.c (.int .i64 (.ofNat 1))), none⟩,
  ⟨some 57, .mv (.t 72), none⟩]
def f42B0 : RC := (.seq (.region f42r2 [56, 57, 58]) (.seq (.cond (.t 58) .skip (.exit 0)) (.seq (.block 1 (.seq (.region f42r3 [4, 56, 57]) (.seq (.region f42r4 [56, 57, 71]) (.cond (.t 71) (.seq (.region f42r5 [2]) .ret) .skip)))) (.region f42r6 [56, 57]))))
def f42L0 : RC := .loop [56, 57] f42B0
@[simp] def f42r7 : List ROper := [
  ⟨some 2, .mv (.c (.bool true)), none⟩]
def f42 : RFunc := ⟨[.t 2], (.seq (.region f42r0 [1]) (.seq (.seq (.region f42r1 [56, 57]) (.block 0 f42L0)) (.seq (.region f42r7 [2]) .ret))), true⟩

/-! quire/metric.shown -/
@[simp] def f43r0 : List ROper := [
  ⟨some 4, .mv (.c (.bool false)), none⟩]
@[simp] def f43r1 : List ROper := [
  ⟨some 7, .mv (.t 0), none⟩,
  ⟨some 8, .s2b (.t 7), none⟩,
  ⟨some 9, .len .slice (.t 8), none⟩,
  ⟨some 10, .mv (.c (.int .i64 (.ofNat 0))), none⟩]
@[simp] def f43r2 : List ROper := [
  ⟨some 11, .bin .lss (.t 10) (.t 9), none⟩]
@[simp] def f43r3 : List ROper := [
  ⟨some 12, .iaddr 1 (.t 8) (.t 10), none⟩,
  ⟨some 13, .load 1 false (.t 12), none⟩,
  ⟨some 6, .mv (.t 13), none⟩]
@[simp] def f43r4 : List ROper := [
  ⟨some 14, .mv (.t 6), none⟩,
  ⟨some 15, .bin .leq (.t 14) (.c (.int .u8 (.ofNat 32))), none⟩,
  ⟨some 16, .mv (.t 15), none⟩,
  ⟨some 17, .mv (.t 6), some (16, false)⟩,
  ⟨some 18, .bin .gtr (.t 17) (.c (.int .u8 (.ofNat 126))), some (16, false)⟩,
  ⟨some 19, .pick (.t 16) (.c (.bool true)) (.t 18), none⟩]
@[simp] def f43r5 : List ROper := [
  ⟨some 4, .mv (.c (.bool false)), none⟩]
@[simp] def f43r6 : List ROper := [
  ⟨some 20, .bin .add (.t 10) (.c (.int .i64 (.ofNat 1))), none⟩,
  ⟨some 10, .mv (.t 20), none⟩]
def f43B0 : RC := (.seq (.region f43r2 [0, 1, 8, 9, 10, 11]) (.seq (.cond (.t 11) .skip (.exit 0)) (.seq (.block 1 (.seq (.region f43r3 [0, 1, 6, 8, 9, 10]) (.seq (.region f43r4 [0, 1, 8, 9, 10, 19]) (.cond (.t 19) (.seq (.region f43r5 [4]) .ret) .skip)))) (.region f43r6 [0, 1, 8, 9, 10]))))
def f43L0 : RC := .loop [0, 1, 8, 9, 10] f43B0
@[simp] def f43r7 : List ROper := [
  ⟨some 21, .mv (.t 0), none⟩,
  ⟨some 22, .len .str (.t 21), none⟩,
  ⟨some 23, .mv (.t 1), none⟩,
  ⟨some 24, .bin .leq (.t 22) (.t 23), none⟩,
  ⟨some 4, .mv (.t 24), none⟩]
def f43 : RFunc := ⟨[.t 4], (.seq (.region f43r0 [0, 1]) (.seq (.seq (.region f43r1 [0, 1, 8, 9, 10]) (.block 0 f43L0)) (.seq (.region f43r7 [4]) .ret))), true⟩

/-! strings.Count -/
@[simp] def f44r0 : List ROper := [
  ⟨some 4, .mv (.c (.int .i64 (.ofNat 0))), none⟩]
@[simp] def f44r1 : List ROper := [
  ⟨some 7, .mv (.t 1), none⟩,
  ⟨some 8, .len .str (.t 7), none⟩,
  ⟨some 9, .bin .eql (.t 8) (.c (.int .i64 (.ofNat 0))), none⟩]
@[simp] def f44r2 : List ROper := [
  ⟨some 10, .mv (.t 0), none⟩,
  ⟨some 11, .call 63 [(.t 10)], none⟩,
  ⟨some 12, .bin .add (.t 11) (.c (.int .i64 (.ofNat 1))), none⟩,
  ⟨some 4, .mv (.t 12), none⟩]
@[simp] def f44r3 : List ROper := [
  ⟨some 13, .mv (.t 1), none⟩,
  ⟨some 14, .len .str (.t 13), none⟩,
  ⟨some 15, .bin .eql (.t 14) (.c (.int .i64 (.ofNat 1))), none⟩]
@[simp] def f44r4 : List ROper := [
  ⟨some 16, .mv (.t 0), none⟩,
  ⟨some 17, .mv (.t 1), none⟩,
  ⟨some 18, .index (.t 17) (.c (.int .i64 (.ofNat 0))), none⟩,
  ⟨some 19, .call 64 [(.t 16), (.t 18)], none⟩,
  ⟨some 4, .mv (.t 19), none⟩]
@[simp] def f44r5 : List ROper := [
  ⟨some 5, .mv (.c (.int .i64 (.ofNat 0))), none⟩]
@[simp] def f44r6 : List ROper := [
  ⟨some 20, .mv (.t 0), none⟩,
  ⟨some 21, .mv (.t 1), none⟩,
  ⟨some 22, .call 65 [(.t 20), (.t 21)], none⟩,
  ⟨some 6, .mv (.t 22), none⟩]
@[simp] def f44r7 : List ROper := [
  ⟨some 23, .mv (.t 6), none⟩,
  ⟨some 24, .bin .eql (.t 23) (.c (.int .i64 (.negSucc 0))), none⟩]
@[simp] def f44r8 : List ROper := [
  ⟨some 25, .mv (.t 5), none⟩,
  ⟨some 4, .mv (.t 25), none⟩]
@[simp] def f44r9 : List ROper := [
  ⟨some 26, .mv (.t 5), none⟩,
  ⟨some 27, .bin .add (.t 26) (.c (.int .i64 (.ofNat 1))), none⟩,
  ⟨some 5, .mv (.t 27), none⟩]
@[simp] def f44r10 : List ROper := [
  ⟨some 28, .mv (.t 0), none⟩,
  ⟨some 29, .mv (.t 6), none⟩,
  ⟨some 30, .mv (.t 1), none⟩,
  ⟨some 31, .len .str (.t 30), none⟩,
  ⟨some 32, .bin .add (.t 29) (.t 31), none⟩,
  ⟨some 33, .slice true 1 (.t 28) (some (.t 32)) none none, none⟩,
  ⟨some 0, .mv (.t 33), none⟩]
def f44B0 : RC := (.block 1 (.seq (.region f44r6 [0, 1, 5, 6]) (.seq (.seq (.region f44r7 [0, 1, 5, 6, 24]) (.cond (.t 24) (.seq (.region f44r8 [4]) .ret) .skip)) (.seq (.region f44r9 [0, 1, 5, 6]) (.region f44r10 [0, 1, 5])))))
def f44L0 : RC := .loop [0, 1, 5] f44B0
def f44 : RFunc := ⟨[.t 4], (.seq (.region f44r0 [0, 1]) (.seq (.seq (.region f44r1 [0, 1, 9]) (.cond (.t 9) (.seq (.region f44r2 [4]) .ret) .skip)) (.seq (.seq (.region f44r3 [0, 1, 15]) (.cond (.t 15) (.seq (.region f44r4 [4]) .ret) .skip)) (.seq (.region f44r5 [0, 1, 5]) (.block 0 f44L0))))), true⟩

/-! quire/quireref06.Wrong -/
@[simp] def f45r0 : List ROper := [
  ⟨some 2, .mv (.c (.int .i64 (.ofNat 0))), none⟩]
@[simp] def f45r1 : List ROper := [
  ⟨some 4, .mv (.t 0), none⟩,
  ⟨some 5, .len .str (.t 4), none⟩,
  ⟨some 6, .bin .gtr (.t 5) (.c (.int .i64 (.ofNat 4096))), none⟩]
@[simp] def f45r2 : List ROper := [
  ⟨some 2, .mv (.c (.int .i64 (.ofNat 3))), none⟩]
@[simp] def f45r3 : List ROper := [
  ⟨some 3, .mv (.c (.int .i64 (.ofNat 0))), none⟩]
@[simp] def f45r4 : List ROper := [
  ⟨some 7, .mv (.t 3), none⟩,
  ⟨some 8, .mv (.t 0), none⟩,
  ⟨some 9, .len .str (.t 8), none⟩,
  ⟨some 10, .bin .lss (.t 7) (.t 9), none⟩]
@[simp] def f45r5 : List ROper := [
  ⟨some 13, .mv (.t 0), none⟩,
  ⟨some 14, .mv (.t 3), none⟩,
  ⟨some 15, .index (.t 13) (.t 14), none⟩,
  ⟨some 16, .call 58 [(.t 15)], none⟩,
  ⟨some 17, .bin .eql (.t 16) (.c (.int .i64 (.ofNat 0))), none⟩]
@[simp] def f45r6 : List ROper := [
  ⟨some 2, .mv (.c (.int .i64 (.ofNat 4))), none⟩]
@[simp] def f45r7 : List ROper := [
  ⟨some 11, .mv (.t 3), none⟩,
  ⟨some 12, .bin .add (.t 11) (.c (.int .i64 (.ofNat 1))), none⟩,
  ⟨some 3, .mv (.t 12), none⟩]
def f45B0 : RC := (.seq (.seq (.region f45r4 [0, 3, 10]) (.cond (.t 10) .skip (.exit 0))) (.seq (.block 1 (.seq (.region f45r5 [0, 3, 17]) (.cond (.t 17) (.seq (.region f45r6 [2]) .ret) .skip))) (.region f45r7 [0, 3])))
def f45L0 : RC := .loop [0, 3] f45B0
@[simp] def f45r8 : List ROper := [
  ⟨some 2, .mv (.c (.int .i64 (.ofNat 0))), none⟩]
def f45 : RFunc := ⟨[.t 2], (.seq (.region f45r0 [0]) (.seq (.seq (.region f45r1 [0, 6]) (.cond (.t 6) (.seq (.region f45r2 [2]) .ret) .skip)) (.seq (.seq (.region f45r3 [0, 3]) (.block 0 f45L0)) (.seq (.region f45r8 [2]) .ret)))), true⟩

/-! quire/quireref07.Char -/
@[simp] def f46r0 : List ROper := [
  ⟨some 1, .box 3 (.t 0), none⟩,
  ⟨some 2, .mv (.c (.bool false)), none⟩]
@[simp] def f46r1 : List ROper := [
  ⟨some 3, .faddr 0 (.t 1), none⟩,
  ⟨some 4, .load 1 false (.t 3), none⟩,
  ⟨some 5, .call 66 [(.t 4), (.c (.int .i64 (.ofNat 0))), (.c (.int .i64 (.ofNat 64)))], none⟩,
  ⟨some 6, .mv (.t 5), none⟩,
  ⟨some 7, .faddr 1 (.t 1), some (6, true)⟩,
  ⟨some 8, .load 1 false (.t 7), some (6, true)⟩,
  ⟨some 9, .call 66 [(.t 8), (.c (.int .i64 (.ofNat 0))), (.c (.int .i64 (.ofNat 15)))], some (6, true)⟩,
  ⟨some 10, .pick (.t 6) (.t 9) (.c (.bool false)), none⟩,
  ⟨some 11, .mv (.t 10), none⟩,
  ⟨some 12, .faddr 2 (.t 1), some (11, true)⟩,
  ⟨some 13, .load 1 false (.t 12), some (11, true)⟩,
  ⟨some 14, .call 67 [(.t 13)], some (11, true)⟩,
  ⟨some 15, .pick (.t 11) (.t 14) (.c (.bool false)), none⟩,
  ⟨some 2, .mv (.t 15), none⟩]
def f46 : RFunc := ⟨[.t 2], (.seq (.region f46r0 [1]) (.seq (.region f46r1 [2]) .ret)), true⟩

/-! quire/quireref07.Props -/
@[simp] def f47r0 : List ROper := [
  ⟨some 1, .box 17 (.t 0), none⟩,
  ⟨some 2, .mv (.c (.bool false)), none⟩]
@[simp] def f47r1 : List ROper := [
  ⟨some 6, .faddr 0 (.t 1), none⟩,
  ⟨some 7, .load 1 false (.t 6), none⟩,
  ⟨some 8, .call 66 [(.t 7), (.c (.int .i64 (.ofNat 1))), (.c (.int .i64 (.ofNat 64)))], none⟩,
  ⟨some 9, .mv (.t 8), none⟩,
  ⟨some 10, .faddr 1 (.t 1), some (9, true)⟩,
  ⟨some 11, .load 1 false (.t 10), some (9, true)⟩,
  ⟨some 12, .call 66 [(.t 11), (.c (.int .i64 (.ofNat 1))), (.c (.int .i64 (.ofNat 255)))], some (9, true)⟩,
  ⟨some 13, .pick (.t 9) (.t 12) (.c (.bool false)), none⟩,
  ⟨some 14, .mv (.t 13), none⟩,
  ⟨some 15, .faddr 2 (.t 1), some (14, true)⟩,
  ⟨some 16, .load 1 false (.t 15), some (14, true)⟩,
  ⟨some 17, .call 66 [(.t 16), (.c (.int .i64 (.ofNat 0))), (.c (.int .i64 (.ofNat 3)))], some (14, true)⟩,
  ⟨some 18, .pick (.t 14) (.t 17) (.c (.bool false)), none⟩,
  ⟨some 3, .mv (.t 18), none⟩]
@[simp] def f47r2 : List ROper := [
  ⟨some 19, .faddr 3 (.t 1), none⟩,
  ⟨some 20, .load 1 false (.t 19), none⟩,
  ⟨some 21, .call 66 [(.t 20), (.c (.int .i64 (.ofNat 0))), (.c (.int .i64 (.ofNat 255)))], none⟩,
  ⟨some 22, .mv (.t 21), none⟩,
  ⟨some 23, .faddr 4 (.t 1), some (22, true)⟩,
  ⟨some 24, .load 1 false (.t 23), some (22, true)⟩,
  ⟨some 25, .call 66 [(.t 24), (.c (.int .i64 (.ofNat 0))), (.c (.int .i64 (.ofNat 255)))], some (22, true)⟩,
  ⟨some 26, .pick (.t 22) (.t 25) (.c (.bool false)), none⟩,
  ⟨some 27, .mv (.t 26), none⟩,
  ⟨some 28, .faddr 5 (.t 1), some (27, true)⟩,
  ⟨some 29, .load 1 false (.t 28), some (27, true)⟩,
  ⟨some 30, .call 66 [(.t 29), (.c (.int .i64 (.ofNat 0))), (.c (.int .i64 (.ofNat 255)))], some (27, true)⟩,
  ⟨some 31, .pick (.t 27) (.t 30) (.c (.bool false)), none⟩,
  ⟨some 32, .mv (.t 31), none⟩,
  ⟨some 33, .faddr 6 (.t 1), some (32, true)⟩,
  ⟨some 34, .load 1 false (.t 33), some (32, true)⟩,
  ⟨some 35, .call 66 [(.t 34), (.c (.int .i64 (.ofNat 0))), (.c (.int .i64 (.ofNat 255)))], some (32, true)⟩,
  ⟨some 36, .pick (.t 32) (.t 35) (.c (.bool false)), none⟩,
  ⟨some 37, .mv (.t 36), none⟩,
  ⟨some 38, .faddr 7 (.t 1), some (37, true)⟩,
  ⟨some 39, .load 1 false (.t 38), some (37, true)⟩,
  ⟨some 40, .call 66 [(.t 39), (.c (.int .i64 (.ofNat 0))), (.c (.int .i64 (.ofNat 255)))], some (37, true)⟩,
  ⟨some 41, .pick (.t 37) (.t 40) (.c (.bool false)), none⟩,
  ⟨some 4, .mv (.t 41), none⟩]
@[simp] def f47r3 : List ROper := [
  ⟨some 42, .faddr 8 (.t 1), none⟩,
  ⟨some 43, .load 1 false (.t 42), none⟩,
  ⟨some 44, .call 67 [(.t 43)], none⟩,
  ⟨some 45, .mv (.t 44), none⟩,
  ⟨some 46, .faddr 9 (.t 1), some (45, true)⟩,
  ⟨some 47, .load 1 false (.t 46), some (45, true)⟩,
  ⟨some 48, .call 67 [(.t 47)], some (45, true)⟩,
  ⟨some 49, .pick (.t 45) (.t 48) (.c (.bool false)), none⟩,
  ⟨some 50, .mv (.t 49), none⟩,
  ⟨some 51, .faddr 12 (.t 1), some (50, true)⟩,
  ⟨some 52, .load 1 false (.t 51), some (50, true)⟩,
  ⟨some 53, .call 67 [(.t 52)], some (50, true)⟩,
  ⟨some 54, .pick (.t 50) (.t 53) (.c (.bool false)), none⟩,
  ⟨some 55, .mv (.t 54), none⟩,
  ⟨some 56, .faddr 13 (.t 1), some (55, true)⟩,
  ⟨some 57, .load 1 false (.t 56), some (55, true)⟩,
  ⟨some 58, .call 67 [(.t 57)], some (55, true)⟩,
  ⟨some 59, .pick (.t 55) (.t 58) (.c (.bool false)), none⟩,
  ⟨some 5, .mv (.t 59), none⟩]
@[simp] def f47r4 : List ROper := [
  ⟨some 60, .mv (.t 3), none⟩,
  ⟨some 61, .mv (.t 60), none⟩,
  ⟨some 62, .mv (.t 4), some (61, true)⟩,
  ⟨some 63, .pick (.t 61) (.t 62) (.c (.bool false)), none⟩,
  ⟨some 64, .mv (.t 63), none⟩,
  ⟨some 65, .mv (.t 5), some (64, true)⟩,
  ⟨some 66, .pick (.t 64) (.t 65) (.c (.bool false)), none⟩,
  ⟨some 67, .mv (.t 66), none⟩,
  ⟨some 68, .faddr 10 (.t 1), some (67, true)⟩,
  ⟨some 69, .load 1 false (.t 68), some (67, true)⟩,
  ⟨some 70, .call 66 [(.t 69), (.c (.int .i64 (.ofNat 1))), (.c (.int .i64 (.ofNat 4)))], some (67, true)⟩,
  ⟨some 71, .pick (.t 67) (.t 70) (.c (.bool false)), none⟩,
  ⟨some 72, .mv (.t 71), none⟩,
  ⟨some 73, .faddr 11 (.t 1), some (72, true)⟩,
  ⟨some 74, .load 1 false (.t 73), some (72, true)⟩,
  ⟨some 75, .call 66 [(.t 74), (.c (.int .i64 (.ofNat 1))), (.c (.int .i64 (.ofNat 4)))], some (72, true)⟩,
  ⟨some 76, .pick (.t 72) (.t 75) (.c (.bool false)), none⟩,
  ⟨some 77, .mv (.t 76), none⟩,
  ⟨some 78, .faddr 14 (.t 1), some (77, true)⟩,
  ⟨some 79, .load 1 false (.t 78), some (77, true)⟩,
  ⟨some 80, .call 66 [(.t 79), (.c (.int .i64 (.ofNat 0))), (.c (.int .i64 (.ofNat 4)))], some (77, true)⟩,
  ⟨some 81, .pick (.t 77) (.t 80) (.c (.bool false)), none⟩,
  ⟨some 82, .mv (.t 81), none⟩,
  ⟨some 83, .faddr 15 (.t 1), some (82, true)⟩,
  ⟨some 84, .load 1 false (.t 83), some (82, true)⟩,
  ⟨some 85, .call 66 [(.t 84), (.c (.int .i64 (.ofNat 0))), (.c (.int .i64 (.ofNat 8)))], some (82, true)⟩,
  ⟨some 86, .pick (.t 82) (.t 85) (.c (.bool false)), none⟩,
  ⟨some 87, .mv (.t 86), none⟩,
  ⟨some 88, .faddr 16 (.t 1), some (87, true)⟩,
  ⟨some 89, .load 1 false (.t 88), some (87, true)⟩,
  ⟨some 90, .call 66 [(.t 89), (.c (.int .i64 (.ofNat 0))), (.c (.int .i64 (.ofNat 3)))], some (87, true)⟩,
  ⟨some 91, .pick (.t 87) (.t 90) (.c (.bool false)), none⟩,
  ⟨some 2, .mv (.t 91), none⟩]
def f47 : RFunc := ⟨[.t 2], (.seq (.region f47r0 [1]) (.seq (.region f47r1 [1, 3]) (.seq (.region f47r2 [1, 3, 4]) (.seq (.region f47r3 [1, 3, 4, 5]) (.seq (.region f47r4 [2]) .ret))))), true⟩

/-! quire/quireref07.shown -/
@[simp] def f48r0 : List ROper := [
  ⟨some 4, .mv (.c (.bool false)), none⟩]
@[simp] def f48r1 : List ROper := [
  ⟨some 5, .mv (.c (.int .i64 (.ofNat 0))), none⟩]
@[simp] def f48r2 : List ROper := [
  ⟨some 6, .mv (.t 5), none⟩,
  ⟨some 7, .mv (.t 0), none⟩,
  ⟨some 8, .len .str (.t 7), none⟩,
  ⟨some 9, .bin .lss (.t 6) (.t 8), none⟩]
@[simp] def f48r3 : List ROper := [
  ⟨some 12, .mv (.t 0), none⟩,
  ⟨some 13, .mv (.t 5), none⟩,
  ⟨some 14, .index (.t 12) (.t 13), none⟩,
  ⟨some 15, .bin .lss (.t 14) (.c (.int .u8 (.ofNat 33))), none⟩,
  ⟨some 16, .mv (.t 15), none⟩,
  ⟨some 17, .mv (.t 0), some (16, false)⟩,
  ⟨some 18, .mv (.t 5), some (16, false)⟩,
  ⟨some 19, .index (.t 17) (.t 18), some (16, false)⟩,
  ⟨some 20, .bin .gtr (.t 19) (.c (.int .u8 (.ofNat 126))), some (16, false)⟩,
  ⟨some 21, .pick (.t 16) (.c (.bool true)) (.t 20), none⟩]
@[simp] def f48r4 : List ROper := [
  ⟨some 4, .mv (.c (.bool false)), none⟩]
@[simp] def f48r5 : List ROper := [
  ⟨some 10, .mv (.t 5), none⟩,
  ⟨some 11, .bin .add (.t 10) (.c (.int .i64 (.ofNat 1))), none⟩,
  ⟨some 5, .mv (.t 11), none⟩]
def f48B0 : RC := (.seq (.seq (.region f48r2 [0, 1, 5, 9]) (.cond (.t 9) .skip (.exit 0))) (.seq (.block 1 (.seq (.region f48r3 [0, 1, 5, 21]) (.cond (.t 21) (.seq (.region f48r4 [4]) .ret) .skip))) (.region f48r5 [0, 1, 5])))
def f48L0 : RC := .loop [0, 1, 5] f48B0
@[simp] def f48r6 : List ROper := [
  ⟨some 22, .mv (.t 0), none⟩,
  ⟨some 23, .len .str (.t 22), none⟩,
  ⟨some 24, .mv (.t 1), none⟩,
  ⟨some 25, .bin .leq (.t 23) (.t 24), none⟩,
  ⟨some 4, .mv (.t 25), none⟩]
def f48 : RFunc := ⟨[.t 4], (.seq (.region f48r0 [0, 1]) (.seq (.seq (.region f48r1 [0, 1, 5]) (.block 0 f48L0)) (.seq (.region f48r6 [4]) .ret))), true⟩

/-! quire/quirekit.SameSpans -/
@[simp] def f49r0 : List ROper := [
  ⟨some 4, .mv (.c (.bool false)), none⟩]
@[simp] def f49r1 : List ROper := [
  ⟨some 6, .mv (.t 0), none⟩,
  ⟨some 7, .len .slice (.t 6), none⟩,
  ⟨some 8, .mv (.t 1), none⟩,
  ⟨some 9, .len .slice (.t 8), none⟩,
  ⟨some 10, .bin .neq (.t 7) (.t 9), none⟩]
@[simp] def f49r2 : List ROper := [
  ⟨some 4, .mv (.c (.bool false)), none⟩]
@[simp] def f49r3 : List ROper := [
  ⟨some 5, .mv (.c (.int .i64 (.ofNat 0))), none⟩]
@[simp] def f49r4 : List ROper := [
  ⟨some 11, .mv (.t 5), none⟩,
  ⟨some 12, .mv (.t 0), none⟩,
  ⟨some 13, .len .slice (.t 12), none⟩,
  ⟨some 14, .bin .lss (.t 11) (.t 13), none⟩]
@[simp] def f49r5 : List ROper := [
  ⟨some 17, .mv (.t 0), none⟩,
  ⟨some 18, .mv (.t 5), none⟩,
  ⟨some 19, .iaddr 4 (.t 17) (.t 18), none⟩,
  ⟨some 20, .load 4 true (.t 19), none⟩,
  ⟨some 21, .mv (.t 1), none⟩,
  ⟨some 22, .mv (.t 5), none⟩,
  ⟨some 23, .iaddr 4 (.t 21) (.t 22), none⟩,
  ⟨some 24, .load 4 true (.t 23), none⟩,
  ⟨some 25, .eq (.agg [.int, .int, .int, .int]) true (.t 20) (.t 24), none⟩]
@[simp] def f49r6 : List ROper := [
  ⟨some 4, .mv (.c (.bool false)), none⟩]
@[simp] def f49r7 : List ROper := [
  ⟨some 15, .mv (.t 5), none⟩,
  ⟨some 16, .bin .add (.t 15) (.c (.int .i64 (.ofNat 1))), none⟩,
  ⟨some 5, .mv (.t 16), none⟩]
def f49B0 : RC := (.seq (.seq (.region f49r4 [0, 1, 5, 14]) (.cond (.t 14) .skip (.exit 0))) (.seq (.block 1 (.seq (.dregion f49r5 [] [] [0, 1, 5, 25]) (.cond (.t 25) (.seq (.region f49r6 [4]) .ret) .skip))) (.region f49r7 [0, 1, 5])))
def f49L0 : RC := .loop [0, 1, 5] f49B0
@[simp] def f49r8 : List ROper := [
  ⟨some 4, .mv (.c (.bool true)), none⟩]
def f49 : RFunc := ⟨[.t 4], (.seq (.region f49r0 [0, 1]) (.seq (.seq (.region f49r1 [0, 1, 10]) (.cond (.t 10) (.seq (.region f49r2 [4]) .ret) .skip)) (.seq (.seq (.region f49r3 [0, 1, 5]) (.block 0 f49L0)) (.seq (.region f49r8 [4]) .ret)))), true⟩

/-! quire/quirekit.SameTexts -/
@[simp] def f50r0 : List ROper := [
  ⟨some 4, .mv (.c (.bool false)), none⟩]
@[simp] def f50r1 : List ROper := [
  ⟨some 6, .mv (.t 0), none⟩,
  ⟨some 7, .len .slice (.t 6), none⟩,
  ⟨some 8, .mv (.t 1), none⟩,
  ⟨some 9, .len .slice (.t 8), none⟩,
  ⟨some 10, .bin .neq (.t 7) (.t 9), none⟩]
@[simp] def f50r2 : List ROper := [
  ⟨some 4, .mv (.c (.bool false)), none⟩]
@[simp] def f50r3 : List ROper := [
  ⟨some 5, .mv (.c (.int .i64 (.ofNat 0))), none⟩]
@[simp] def f50r4 : List ROper := [
  ⟨some 11, .mv (.t 5), none⟩,
  ⟨some 12, .mv (.t 0), none⟩,
  ⟨some 13, .len .slice (.t 12), none⟩,
  ⟨some 14, .bin .lss (.t 11) (.t 13), none⟩]
@[simp] def f50r5 : List ROper := [
  ⟨some 17, .mv (.t 0), none⟩,
  ⟨some 18, .mv (.t 5), none⟩,
  ⟨some 19, .iaddr 1 (.t 17) (.t 18), none⟩,
  ⟨some 20, .load 1 false (.t 19), none⟩,
  ⟨some 21, .mv (.t 1), none⟩,
  ⟨some 22, .mv (.t 5), none⟩,
  ⟨some 23, .iaddr 1 (.t 21) (.t 22), none⟩,
  ⟨some 24, .load 1 false (.t 23), none⟩,
  ⟨some 25, .bin .neq (.t 20) (.t 24), none⟩]
@[simp] def f50r6 : List ROper := [
  ⟨some 4, .mv (.c (.bool false)), none⟩]
@[simp] def f50r7 : List ROper := [
  ⟨some 15, .mv (.t 5), none⟩,
  ⟨some 16, .bin .add (.t 15) (.c (.int .i64 (.ofNat 1))), none⟩,
  ⟨some 5, .mv (.t 16), none⟩]
def f50B0 : RC := (.seq (.seq (.region f50r4 [0, 1, 5, 14]) (.cond (.t 14) .skip (.exit 0))) (.seq (.block 1 (.seq (.dregion f50r5 [] [] [0, 1, 5, 25]) (.cond (.t 25) (.seq (.region f50r6 [4]) .ret) .skip))) (.region f50r7 [0, 1, 5])))
def f50L0 : RC := .loop [0, 1, 5] f50B0
@[simp] def f50r8 : List ROper := [
  ⟨some 4, .mv (.c (.bool true)), none⟩]
def f50 : RFunc := ⟨[.t 4], (.seq (.region f50r0 [0, 1]) (.seq (.seq (.region f50r1 [0, 1, 10]) (.cond (.t 10) (.seq (.region f50r2 [4]) .ret) .skip)) (.seq (.seq (.region f50r3 [0, 1, 5]) (.block 0 f50L0)) (.seq (.region f50r8 [4]) .ret)))), true⟩

/-! quire/metric.sized -/
@[simp] def f51r0 : List ROper := [
  ⟨some 2, .mv (.c (.bool false)), none⟩]
@[simp] def f51r1 : List ROper := [
  ⟨some 3, .mv (.t 0), none⟩,
  ⟨some 4, .bin .geq (.t 3) (.c (.int .i64 (.ofNat 1))), none⟩,
  ⟨some 5, .mv (.t 4), none⟩,
  ⟨some 6, .mv (.t 0), some (5, true)⟩,
  ⟨some 7, .bin .leq (.t 6) (.c (.int .i64 (.ofNat 64))), some (5, true)⟩,
  ⟨some 8, .pick (.t 5) (.t 7) (.c (.bool false)), none⟩,
  ⟨some 2, .mv (.t 8), none⟩]
def f51 : RFunc := ⟨[.t 2], (.seq (.region f51r0 [0]) (.seq (.region f51r1 [2]) .ret)), true⟩

/-! quire/quireref07.in -/
@[simp] def f52r0 : List ROper := [
  ⟨some 4, .mv (.c (.bool false)), none⟩]
@[simp] def f52r1 : List ROper := [
  ⟨some 5, .mv (.c (.int .i64 (.ofNat 0))), none⟩]
@[simp] def f52r2 : List ROper := [
  ⟨some 6, .mv (.t 5), none⟩,
  ⟨some 7, .mv (.t 1), none⟩,
  ⟨some 8, .len .str (.t 7), none⟩,
  ⟨some 9, .bin .lss (.t 6) (.t 8), none⟩]
@[simp] def f52r3 : List ROper := [
  ⟨some 12, .mv (.t 1), none⟩,
  ⟨some 13, .mv (.t 5), none⟩,
  ⟨some 14, .index (.t 12) (.t 13), none⟩,
  ⟨some 15, .mv (.t 0), none⟩,
  ⟨some 16, .bin .eql (.t 14) (.t 15), none⟩]
@[simp] def f52r4 : List ROper := [
  ⟨some 4, .mv (.c (.bool true)), none⟩]
@[simp] def f52r5 : List ROper := [
  ⟨some 10, .mv (.t 5), none⟩,
  ⟨some 11, .bin .add (.t 10) (.c (.int .i64 (.ofNat 1))), none⟩,
  ⟨some 5, .mv (.t 11), none⟩]
def f52B0 : RC := (.seq (.seq (.region f52r2 [0, 1, 5, 9]) (.cond (.t 9) .skip (.exit 0))) (.seq (.block 1 (.seq (.region f52r3 [0, 1, 5, 16]) (.cond (.t 16) (.seq (.region f52r4 [4]) .ret) .skip))) (.region f52r5 [0, 1, 5])))
def f52L0 : RC := .loop [0, 1, 5] f52B0
@[simp] def f52r6 : List ROper := [
  ⟨some 4, .mv (.c (.bool false)), none⟩]
def f52 : RFunc := ⟨[.t 4], (.seq (.region f52r0 [0, 1]) (.seq (.seq (.region f52r1 [0, 1, 5]) (.block 0 f52L0)) (.seq (.region f52r6 [4]) .ret))), true⟩

/-! quire/quireref07.Run -/
@[simp] def f53r0 : List ROper := [
  ⟨some 6, .mv (.c (.int .i64 (.ofNat 0))), none⟩]
@[simp] def f53r1 : List ROper := [
  ⟨some 7, .mv (.c (.int .i64 (.ofNat 0))), none⟩]
@[simp] def f53r2 : List ROper := [
  ⟨some 9, .mv (.t 1), none⟩,
  ⟨some 8, .mv (.t 9), none⟩]
@[simp] def f53r3 : List ROper := [
  ⟨some 10, .mv (.t 8), none⟩,
  ⟨some 11, .mv (.t 2), none⟩,
  ⟨some 12, .bin .lss (.t 10) (.t 11), none⟩]
@[simp] def f53r4 : List ROper := [
  ⟨some 15, .mv (.t 7), none⟩,
  ⟨some 16, .mv (.t 0), none⟩,
  ⟨some 17, .mv (.t 8), none⟩,
  ⟨some 18, .iaddr 6 (.t 16) (.t 17), none⟩,
  ⟨some 19, .faddr 4 (.t 18), none⟩,
  ⟨some 20, .load 1 false (.t 19), none⟩,
  ⟨some 21, .bin .add (.t 15) (.t 20), none⟩,
  ⟨some 7, .mv (.t 21), none⟩]
@[simp] def f53r5 : List ROper := [
  ⟨some 22, .mv (.t 8), none⟩,
  ⟨some 23, .mv (.t 1), none⟩,
  ⟨some 24, .bin .gtr (.t 22) (.t 23), none⟩]
@[simp] def f53r6 : List ROper := [
  ⟨some 25, .mv (.t 7), none⟩,
  ⟨some 26, .mv (.t 0), none⟩,
  ⟨some 27, .mv (.t 8), none⟩,
  ⟨some 28, .iaddr 6 (.t 26) (.t 27), none⟩,
  ⟨some 29, .faddr 5 (.t 28), none⟩,
  ⟨some 30, .load 1 false (.t 29), none⟩,
  ⟨some 31, .bin .add (.t 25) (.t 30), none⟩,
  ⟨some 7, .mv (.t 31), none⟩]
@[simp] def f53r7 : List ROper := [
  ⟨some 13, .mv (.t 8), none⟩,
  ⟨some 14, .bin .add (.t 13) (.c (.int .i64 (.ofNat 1))), none⟩,
  ⟨some 8, .mv (.t 14), none⟩]
def f53B0 : RC := (.seq (.seq (.region f53r3 [0, 1, 2, 7, 8, 12]) (.cond (.t 12) .skip (.exit 0))) (.seq (.block 1 (.seq (.region f53r4 [0, 1, 2, 7, 8]) (.seq (.region f53r5 [0, 1, 2, 7, 8, 24]) (.cond (.t 24) (.region f53r6 [0, 1, 2, 7, 8]) .skip)))) (.region f53r7 [0, 1, 2, 7, 8])))
def f53L0 : RC := .loop [0, 1, 2, 7, 8] f53B0
@[simp] def f53r8 : List ROper := [
  ⟨some 32, .mv (.t 7), none⟩,
  ⟨some 6, .mv (.t 32), none⟩]
def f53 : RFunc := ⟨[.t 6], (.seq (.region f53r0 [0, 1, 2]) (.seq (.region f53r1 [0, 1, 2, 7]) (.seq (.seq (.region f53r2 [0, 1, 2, 7, 8]) (.block 0 f53L0)) (.seq (.region f53r8 [6]) .ret)))), true⟩

/-! quire/cluster.wrong -/
@[simp] def f54r0 : List ROper := [
  ⟨some 2, .mv (.c (.int .i64 (.ofNat 0))), none⟩]
@[simp] def f54r1 : List ROper := [
  ⟨some 5, .mv (.t 0), none⟩,
  ⟨some 6, .len .str (.t 5), none⟩,
  ⟨some 7, .bin .gtr (.t 6) (.c (.int .i64 (.ofNat 4096))), none⟩]
@[simp] def f54r2 : List ROper := [
  ⟨some 2, .mv (.c (.int .i64 (.ofNat 3))), none⟩]
@[simp] def f54r3 : List ROper := [
  ⟨some 8, .mv (.t 0), none⟩,
  ⟨some 9, .s2b (.t 8), none⟩,
  ⟨some 10, .len .slice (.t 9), none⟩,
  ⟨some 11, .mv (.c (.int .i64 (.ofNat 0))), none⟩]
@[simp] def f54r4 : List ROper := [
  ⟨some 12, .bin .lss (.t 11) (.t 10), none⟩]
@[simp] def f54r5 : List ROper := [
  ⟨some 13, .iaddr 1 (.t 9) (.t 11), none⟩,
  ⟨some 14, .load 1 false (.t 13), none⟩,
  ⟨some 4, .mv (.t 14), none⟩]
@[simp] def f54r6 : List ROper := [
  ⟨some 15, .mv (.t 4), none⟩,
  ⟨some 16, .call 68 [(.t 15)], none⟩,
  ⟨some 17, .bin .eql (.t 16) (.c (.int .i64 (.ofNat 0))), none⟩]
@[simp] def f54r7 : List ROper := [
  ⟨some 2, .mv (.c (.int .i64 (.ofNat 4))), none⟩]
@[simp] def f54r8 : List ROper := [
  ⟨some 18, .bin .add (.t 11) (.c (.int .i64 (.ofNat 1))), none⟩,
  ⟨some 11, .mv (.t 18), none⟩]
def f54B0 : RC := (.seq (.region f54r4 [9, 10, 11, 12]) (.seq (.cond (.t 12) .skip (.exit 0)) (.seq (.block 1 (.seq (.region f54r5 [4, 9, 10, 11]) (.seq (.region f54r6 [9, 10, 11, 17]) (.cond (.t 17) (.seq (.region f54r7 [2]) .ret) .skip)))) (.region f54r8 [9, 10, 11]))))
def f54L0 : RC := .loop [9, 10, 11] f54B0
@[simp] def f54r9 : List ROper := [
  ⟨some 2, .mv (.c (.int .i64 (.ofNat 0))), none⟩]
def f54 : RFunc := ⟨[.t 2], (.seq (.region f54r0 [0]) (.seq (.seq (.region f54r1 [0, 7]) (.cond (.t 7) (.seq (.region f54r2 [2]) .ret) .skip)) (.seq (.seq (.region f54r3 [9, 10, 11]) (.block 0 f54L0)) (.seq (.region f54r9 [2]) .ret)))), true⟩

/-! quire/cluster.each -/
@[simp] def f55r0 : List ROper := [
  ⟨some 1, .box 1 (.t 0), none⟩,
  ⟨some 2, .mv (.c .nilfn), none⟩]
@[simp] def f55r1 : List ROper := [
  ⟨some 3, .mkfn 69 [] [(.t 1)], none⟩,
  ⟨some 2, .mv (.t 3), none⟩]
def f55 : RFunc := ⟨[.t 2], (.seq (.region f55r0 [1]) (.seq (.region f55r1 [2]) .ret)), false⟩

/-! quire/metric.looks$1 -/
@[simp] def f56r0 : List ROper := [
  ⟨some 4, .alloc [(.int .i64 (.ofNat 0)), (.int .i64 (.ofNat 0)), (.int .i64 (.ofNat 0))], none⟩]
@[simp] def f56r1 : List ROper := [
  ⟨some 5, .load 1 false (.t 1), none⟩,
  ⟨some 6, .len .slice (.t 5), none⟩,
  ⟨some 7, .bin .gtr (.t 6) (.c (.int .i64 (.ofNat 1))), none⟩,
  ⟨some 8, .mv (.t 7), none⟩,
  ⟨some 9, .mv (.t 0), some (8, true)⟩,
  ⟨some 10, .load 1 false (.t 2), some (8, true)⟩,
  ⟨some 11, .bin .geq (.t 9) (.t 10), some (8, true)⟩,
  ⟨some 12, .pick (.t 8) (.t 11) (.c (.bool false)), none⟩]
@[simp] def f56r2 : List ROper := [
  ⟨some 13, .load 1 false (.t 1), none⟩,
  ⟨some 14, .slice false 4 (.t 13) (some (.c (.int .i64 (.ofNat 1)))) none none, none⟩,
  ⟨none, .store 1 (.t 1) (.t 14), none⟩]
@[simp] def f56r3 : List ROper := [
  ⟨some 15, .load 1 false (.t 2), none⟩,
  ⟨some 16, .load 1 false (.t 1), none⟩,
  ⟨some 17, .iaddr 4 (.t 16) (.c (.int .i64 (.ofNat 0))), none⟩,
  ⟨some 18, .faddr 0 (.t 17), none⟩,
  ⟨some 19, .load 1 false (.t 18), none⟩,
  ⟨some 20, .bin .add (.t 15) (.t 19), none⟩,
  ⟨none, .store 1 (.t 2) (.t 20), none⟩]
def f56B0 : RC := (.seq (.seq (.region f56r1 [0, 1, 2, 4, 12]) (.cond (.t 12) .skip (.exit 0))) (.block 1 (.seq (.region f56r2 [0, 1, 2, 4]) (.dregion f56r3 [] [] [0, 1, 2, 4]))))
def f56L0 : RC := .loop [0, 1, 2, 4] f56B0
@[simp] def f56r4 : List ROper := [
  ⟨some 21, .load 1 false (.t 1), none⟩,
  ⟨some 22, .iaddr 4 (.t 21) (.c (.int .i64 (.ofNat 0))), none⟩,
  ⟨some 23, .faddr 1 (.t 22), none⟩,
  ⟨some 24, .load 3 true (.t 23), none⟩,
  ⟨none, .store 3 (.t 4) (.t 24), none⟩]
def f56 : RFunc := ⟨[.cell 4 3 true], (.seq (.region f56r0 [0, 1, 2, 4]) (.seq (.block 0 f56L0) (.seq (.region f56r4 [4]) .ret))), false⟩

/-! quire/metric.paired -/
@[simp] def f57r0 : List ROper := [
  ⟨some 6, .mv (.c (.bool false)), none⟩]
@[simp] def f57r1 : List ROper := [
  ⟨some 7, .mv (.c (.int .i64 (.ofNat 0))), none⟩]
@[simp] def f57r2 : List ROper := [
  ⟨some 8, .mv (.t 7), none⟩,
  ⟨some 9, .bin .add (.t 8) (.c (.int .i64 (.ofNat 1))), none⟩,
  ⟨some 10, .mv (.t 0), none⟩,
  ⟨some 11, .len .str (.t 10), none⟩,
  ⟨some 12, .bin .lss (.t 9) (.t 11), none⟩]
@[simp] def f57r3 : List ROper := [
  ⟨some 15, .mv (.t 0), none⟩,
  ⟨some 16, .mv (.t 7), none⟩,
  ⟨some 17, .index (.t 15) (.t 16), none⟩,
  ⟨some 18, .mv (.t 1), none⟩,
  ⟨some 19, .bin .eql (.t 17) (.t 18), none⟩,
  ⟨some 20, .mv (.t 19), none⟩,
  ⟨some 21, .mv (.t 0), some (20, true)⟩,
  ⟨some 22, .mv (.t 7), some (20, true)⟩,
  ⟨some 23, .bin .add (.t 22) (.c (.int .i64 (.ofNat 1))), some (20, true)⟩,
  ⟨some 24, .index (.t 21) (.t 23), some (20, true)⟩,
  ⟨some 25, .mv (.t 2), some (20, true)⟩,
  ⟨some 26, .bin .eql (.t 24) (.t 25), some (20, true)⟩,
  ⟨some 27, .pick (.t 20) (.t 26) (.c (.bool false)), none⟩]
@[simp] def f57r4 : List ROper := [
  ⟨some 6, .mv (.c (.bool true)), none⟩]
@[simp] def f57r5 : List ROper := [
  ⟨some 13, .mv (.t 7), none⟩,
  ⟨some 14, .bin .add (.t 13) (.c (.int .i64 (.ofNat 3))), none⟩,
  ⟨some 7, .mv (.t 14), none⟩]
def f57B0 : RC := (.seq (.seq (.region f57r2 [0, 1, 2, 7, 12]) (.cond (.t 12) .skip (.exit 0))) (.seq (.block 1 (.seq (.region f57r3 [0, 1, 2, 7, 27]) (.cond (.t 27) (.seq (.region f57r4 [6]) .ret) .skip))) (.region f57r5 [0, 1, 2, 7])))
def f57L0 : RC := .loop [0, 1, 2, 7] f57B0
@[simp] def f57r6 : List ROper := [
  ⟨some 6, .mv (.c (.bool false)), none⟩]
def f57 : RFunc := ⟨[.t 6], (.seq (.region f57r0 [0, 1, 2]) (.seq (.seq (.region f57r1 [0, 1, 2, 7]) (.block 0 f57L0)) (.seq (.region f57r6 [6]) .ret))), true⟩

/-! quire/quireref06.Kind -/
@[simp] def f58r0 : List ROper := [
  ⟨some 2, .mv (.c (.int .i64 (.ofNat 0))), none⟩]
@[simp] def f58r1 : List ROper := [
  ⟨some 4, .mv (.t 0), none⟩,
  ⟨some 5, .bin .eql (.t 4) (.c (.int .u8 (.ofNat 32))), none⟩,
  ⟨some 3, .mv (.t 5), none⟩]
@[simp] def f58r2 : List ROper := [
  ⟨some 2, .mv (.c (.int .i64 (.ofNat 3))), none⟩]
@[simp] def f58r3 : List ROper := [
  ⟨some 7, .mv (.t 0), none⟩,
  ⟨some 8, .bin .eql (.t 7) (.c (.int .u8 (.ofNat 9))), none⟩,
  ⟨some 6, .mv (.t 8), none⟩]
@[simp] def f58r4 : List ROper := [
  ⟨some 2, .mv (.c (.int .i64 (.ofNat 4))), none⟩]
@[simp] def f58r5 : List ROper := [
  ⟨some 10, .mv (.t 0), none⟩,
  ⟨some 11, .bin .eql (.t 10) (.c (.int .u8 (.ofNat 31))), none⟩,
  ⟨some 9, .mv (.t 11), none⟩]
@[simp] def f58r6 : List ROper := [
  ⟨some 2, .mv (.c (.int .i64 (.ofNat 5))), none⟩]
@[simp] def f58r7 : List ROper := [
  ⟨some 13, .mv (.t 0), none⟩,
  ⟨some 14, .bin .eql (.t 13) (.c (.int .u8 (.ofNat 1))), none⟩,
  ⟨some 12, .mv (.t 14), none⟩]
@[simp] def f58r8 : List ROper := [
  ⟨some 2, .mv (.c (.int .i64 (.ofNat 6))), none⟩]
@[simp] def f58r9 : List ROper := [
  ⟨some 16, .mv (.t 0), none⟩,
  ⟨some 17, .bin .eql (.t 16) (.c (.int .u8 (.ofNat 2))), none⟩,
  ⟨some 15, .mv (.t 17), none⟩]
@[simp] def f58r10 : List ROper := [
  ⟨some 2, .mv (.c (.int .i64 (.ofNat 7))), none⟩]
@[simp] def f58r11 : List ROper := [
  ⟨some 19, .mv (.t 0), none⟩,
  ⟨some 20, .bin .eql (.t 19) (.c (.int .u8 (.ofNat 3))), none⟩,
  ⟨some 18, .mv (.t 20), none⟩]
@[simp] def f58r12 : List ROper := [
  ⟨some 2, .mv (.c (.int .i64 (.ofNat 8))), none⟩]
@[simp] def f58r13 : List ROper := [
  ⟨some 22, .mv (.t 0), none⟩,
  ⟨some 23, .call 71 [(.t 22)], none⟩,
  ⟨some 21, .mv (.t 23), none⟩]
@[simp] def f58r14 : List ROper := [
  ⟨some 2, .mv (.c (.int .i64 (.ofNat 1))), none⟩]
@[simp] def f58r15 : List ROper := [
  ⟨some 25, .mv (.t 0), none⟩,
  ⟨some 26, .bin .gtr (.t 25) (.c (.int .u8 (.ofNat 32))), none⟩,
  ⟨some 27, .mv (.t 26), none⟩,
  ⟨some 28, .mv (.t 0), some (27, true)⟩,
  ⟨some 29, .bin .lss (.t 28) (.c (.int .u8 (.ofNat 127))), some (27, true)⟩,
  ⟨some 30, .pick (.t 27) (.t 29) (.c (.bool false)), none⟩,
  ⟨some 24, .mv (.t 30), none⟩]
@[simp] def f58r16 : List ROper := [
  ⟨some 2, .mv (.c (.int .i64 (.ofNat 2))), none⟩]
@[simp] def f58r17 : List ROper := [
  ⟨some 2, .mv (.c (.int .i64 (.ofNat 0))), none⟩]
def f58 : RFunc := ⟨[.t 2], (.seq (.region f58r0 [0]) (.seq (.block 0 (.seq (.region f58r1 [0, 3]) (.cond (.t 3) (.seq (.region f58r2 [2]) .ret) (.seq (.region f58r3 [0, 6]) (.cond (.t 6) (.seq (.region f58r4 [2]) .ret) (.seq (.region f58r5 [0, 9]) (.cond (.t 9) (.seq (.region f58r6 [2]) .ret) (.seq (.region f58r7 [0, 12]) (.cond (.t 12) (.seq (.region f58r8 [2]) .ret) (.seq (.region f58r9 [0, 15]) (.cond (.t 15) (.seq (.region f58r10 [2]) .ret) (.seq (.region f58r11 [0, 18]) (.cond (.t 18) (.seq (.region f58r12 [2]) .ret) (.seq (.region f58r13 [0, 21]) (.cond (.t 21) (.seq (.region f58r14 [2]) .ret) (.seq (.region f58r15 [24]) (.cond (.t 24) (.seq (.region f58r16 [2]) .ret) .skip))))))))))))))))) (.seq (.region f58r17 [2]) .ret))), true⟩

/-! quire/quireref06.accent -/
@[simp] def f59r0 : List ROper := [
  ⟨some 2, .mv (.c (.bool false)), none⟩]
@[simp] def f59r1 : List ROper := [
  ⟨some 3, .mv (.t 0), none⟩,
  ⟨some 4, .bin .eql (.t 3) (.c (.int .u8 (.ofNat 94))), none⟩,
  ⟨some 5, .mv (.t 4), none⟩,
  ⟨some 6, .mv (.t 0), some (5, false)⟩,
  ⟨some 7, .bin .eql (.t 6) (.c (.int .u8 (.ofNat 96))), some (5, false)⟩,
  ⟨some 8, .pick (.t 5) (.c (.bool true)) (.t 7), none⟩,
  ⟨some 9, .mv (.t 8), none⟩,
  ⟨some 10, .mv (.t 0), some (9, false)⟩,
  ⟨some 11, .bin .eql (.t 10) (.c (.int .u8 (.ofNat 126))), some (9, false)⟩,
  ⟨some 12, .pick (.t 9) (.c (.bool true)) (.t 11), none⟩,
  ⟨some 2, .mv (.t 12), none⟩]
def f59 : RFunc := ⟨[.t 2], (.seq (.region f59r0 [0]) (.seq (.region f59r1 [2]) .ret)), true⟩

/-! quire/quireref07.pair -/
@[simp] def f60r0 : List ROper := [
  ⟨some 4, .mv (.c (.bool false)), none⟩]
@[simp] def f60r1 : List ROper := [
  ⟨some 5, .mv (.c (.int .i64 (.ofNat 0))), none⟩]
@[simp] def f60r2 : List ROper := [
  ⟨some 6, .mv (.t 5), none⟩,
  ⟨some 7, .mv (.t 0), none⟩,
  ⟨some 8, .len .slice (.t 7), none⟩,
  ⟨some 9, .bin .lss (.t 6) (.t 8), none⟩]
@[simp] def f60r3 : List ROper := [
  ⟨some 12, .mv (.t 0), none⟩,
  ⟨some 13, .mv (.t 5), none⟩,
  ⟨some 14, .iaddr 1 (.t 12) (.t 13), none⟩,
  ⟨some 15, .load 1 false (.t 14), none⟩,
  ⟨some 16, .mv (.t 1), none⟩,
  ⟨some 17, .bin .eql (.t 15) (.t 16), none⟩]
@[simp] def f60r4 : List ROper := [
  ⟨some 4, .mv (.c (.bool true)), none⟩]
@[simp] def f60r5 : List ROper := [
  ⟨some 10, .mv (.t 5), none⟩,
  ⟨some 11, .bin .add (.t 10) (.c (.int .i64 (.ofNat 1))), none⟩,
  ⟨some 5, .mv (.t 11), none⟩]
def f60B0 : RC := (.seq (.seq (.region f60r2 [0, 1, 5, 9]) (.cond (.t 9) .skip (.exit 0))) (.seq (.block 1 (.seq (.region f60r3 [0, 1, 5, 17]) (.cond (.t 17) (.seq (.region f60r4 [4]) .ret) .skip))) (.region f60r5 [0, 1, 5])))
def f60L0 : RC := .loop [0, 1, 5] f60B0
@[simp] def f60r6 : List ROper := [
  ⟨some 4, .mv (.c (.bool false)), none⟩]
def f60 : RFunc := ⟨[.t 4], (.seq (.region f60r0 [0, 1]) (.seq (.seq (.region f60r1 [0, 1, 5]) (.block 0 f60L0)) (.seq (.region f60r6 [4]) .ret))), true⟩

/-! internal/stringslite.IndexByte -/
@[simp] def f61r0 : List ROper := [
  ⟨some 4, .mv (.c (.int .i64 (.ofNat 0))), none⟩]
@[simp] def f61r1 : List ROper := [
  ⟨some 5, .mv (.t 0), none⟩,
  ⟨some 6, .mv (.t 1), none⟩,
  ⟨some 7, .call 72 [(.t 5), (.t 6)], none⟩,
  ⟨some 4, .mv (.t 7), none⟩]
def f61 : RFunc := ⟨[.t 4], (.seq (.region f61r0 [0, 1]) (.seq (.region f61r1 [4]) .ret)), true⟩

/-! quire/metric.look -/
@[simp] def f62r0 : List ROper := [
  ⟨some 1, .box 3 (.t 0), none⟩,
  ⟨some 2, .mv (.c (.bool false)), none⟩]
@[simp] def f62r1 : List ROper := [
  ⟨some 3, .faddr 0 (.t 1), none⟩,
  ⟨some 4, .load 1 false (.t 3), none⟩,
  ⟨some 5, .bin .geq (.t 4) (.c (.int .i64 (.ofNat 0))), none⟩,
  ⟨some 6, .mv (.t 5), none⟩,
  ⟨some 7, .faddr 0 (.t 1), some (6, true)⟩,
  ⟨some 8, .load 1 false (.t 7), some (6, true)⟩,
  ⟨some 9, .bin .leq (.t 8) (.c (.int .i64 (.ofNat 64))), some (6, true)⟩,
  ⟨some 10, .pick (.t 6) (.t 9) (.c (.bool false)), none⟩,
  ⟨some 11, .mv (.t 10), none⟩,
  ⟨some 12, .faddr 1 (.t 1), some (11, true)⟩,
  ⟨some 13, .load 1 false (.t 12), some (11, true)⟩,
  ⟨some 14, .bin .geq (.t 13) (.c (.int .i64 (.ofNat 0))), some (11, true)⟩,
  ⟨some 15, .pick (.t 11) (.t 14) (.c (.bool false)), none⟩,
  ⟨some 16, .mv (.t 15), none⟩,
  ⟨some 17, .faddr 1 (.t 1), some (16, true)⟩,
  ⟨some 18, .load 1 false (.t 17), some (16, true)⟩,
  ⟨some 19, .bin .leq (.t 18) (.c (.int .i64 (.ofNat 15))), some (16, true)⟩,
  ⟨some 20, .pick (.t 16) (.t 19) (.c (.bool false)), none⟩,
  ⟨some 21, .mv (.t 20), none⟩,
  ⟨some 22, .faddr 2 (.t 1), some (21, true)⟩,
  ⟨some 23, .load 1 false (.t 22), some (21, true)⟩,
  ⟨some 24, .bin .eql (.t 23) (.c (.int .i64 (.ofNat 0))), some (21, true)⟩,
  ⟨some 25, .mv (.t 24), some (21, true)⟩,
  ⟨some 26, .faddr 2 (.t 1), some (25, false)⟩,
  ⟨some 27, .load 1 false (.t 26), some (25, false)⟩,
  ⟨some 28, .bin .eql (.t 27) (.c (.int .i64 (.ofNat 1))), some (25, false)⟩,
  ⟨some 29, .pick (.t 25) (.c (.bool true)) (.t 28), some (21, true)⟩,
  ⟨some 30, .pick (.t 21) (.t 29) (.c (.bool false)), none⟩,
  ⟨some 2, .mv (.t 30), none⟩]
def f62 : RFunc := ⟨[.t 2], (.seq (.region f62r0 [1]) (.seq (.region f62r1 [2]) .ret)), true⟩

/-! unicode/utf8.RuneCountInString -/
@[simp] def f63r0 : List ROper := [
  ⟨some 2, .mv (.c (.int .i64 (.ofNat 0))), none⟩]
@[simp] def f63r1 : List ROper := [
  ⟨some 3, .mv (.t 0), none⟩,
  ⟨some 4, .fail, none⟩]
@[simp] def f63r2 : List ROper := [
  ⟨some 5, .fail, none⟩,
  ⟨some 6, .extract (.t 5) 0, none⟩]
@[simp] def f63r3 : List ROper := [
  ⟨some 7, .mv (.t 2), none⟩,
  ⟨some 8, .bin .add (.t 7) (.c (.int .i64 (.ofNat 1))), none⟩,
  ⟨some 2, .mv (.t 8), none⟩]
def f63B0 : RC := (.seq (.region f63r2 [2, 6]) (.seq (.cond (.t 6) .skip (.exit 0)) (.block 1 (.region f63r3 [2]))))
def f63L0 : RC := .loop [2] f63B0
@[simp] def f63r4 : List ROper := [
  ⟨some 9, .mv (.t 2), none⟩,
  ⟨some 2, .mv (.t 9), none⟩]
def f63 : RFunc := ⟨[.t 2], (.seq (.region f63r0 [0, 2]) (.seq (.seq (.region f63r1 [2]) (.block 0 f63L0)) (.seq (.region f63r4 [2]) .ret))), true⟩

/-! strings.Index -/
@[simp] def f65r0 : List ROper := [
  ⟨some 4, .mv (.c (.int .i64 (.ofNat 0))), none⟩]
@[simp] def f65r1 : List ROper := [
  ⟨some 5, .mv (.t 0), none⟩,
  ⟨some 6, .mv (.t 1), none⟩,
  ⟨some 7, .call 73 [(.t 5), (.t 6)], none⟩,
  ⟨some 4, .mv (.t 7), none⟩]
def f65 : RFunc := ⟨[.t 4], (.seq (.region f65r0 [0, 1]) (.seq (.region f65r1 [4]) .ret)), true⟩

/-! quire/quireref07.from -/
@[simp] def f66r0 : List ROper := [
  ⟨some 6, .mv (.c (.bool false)), none⟩]
@[simp] def f66r1 : List ROper := [
  ⟨some 7, .mv (.t 0), none⟩,
  ⟨some 8, .mv (.t 1), none⟩,
  ⟨some 9, .bin .geq (.t 7) (.t 8), none⟩,
  ⟨some 10, .mv (.t 9), none⟩,
  ⟨some 11, .mv (.t 0), some (10, true)⟩,
  ⟨some 12, .mv (.t 2), some (10, true)⟩,
  ⟨some 13, .bin .leq (.t 11) (.t 12), some (10, true)⟩,
  ⟨some 14, .pick (.t 10) (.t 13) (.c (.bool false)), none⟩,
  ⟨some 6, .mv (.t 14), none⟩]
def f66 : RFunc := ⟨[.t 6], (.seq (.region f66r0 [0, 1, 2]) (.seq (.region f66r1 [6]) .ret)), true⟩

/-! quire/quireref07.bit -/
@[simp] def f67r0 : List ROper := [
  ⟨some 2, .mv (.c (.bool false)), none⟩]
@[simp] def f67r1 : List ROper := [
  ⟨some 3, .mv (.t 0), none⟩,
  ⟨some 4, .bin .eql (.t 3) (.c (.int .i64 (.ofNat 0))), none⟩,
  ⟨some 5, .mv (.t 4), none⟩,
  ⟨some 6, .mv (.t 0), some (5, false)⟩,
  ⟨some 7, .bin .eql (.t 6) (.c (.int .i64 (.ofNat 1))), some (5, false)⟩,
  ⟨some 8, .pick (.t 5) (.c (.bool true)) (.t 7), none⟩,
  ⟨some 2, .mv (.t 8), none⟩]
def f67 : RFunc := ⟨[.t 2], (.seq (.region f67r0 [0]) (.seq (.region f67r1 [2]) .ret)), true⟩

/-! quire/cluster.kind -/
@[simp] def f68r0 : List ROper := [
  ⟨some 2, .mv (.c (.int .i64 (.ofNat 0))), none⟩]
@[simp] def f68r1 : List ROper := [
  ⟨some 4, .mv (.t 0), none⟩,
  ⟨some 5, .call 74 [(.t 4)], none⟩,
  ⟨some 3, .mv (.t 5), none⟩]
@[simp] def f68r2 : List ROper := [
  ⟨some 2, .mv (.c (.int .i64 (.ofNat 1))), none⟩]
@[simp] def f68r3 : List ROper := [
  ⟨some 7, .mv (.t 0), none⟩,
  ⟨some 8, .bin .eql (.t 7) (.c (.int .u8 (.ofNat 32))), none⟩,
  ⟨some 6, .mv (.t 8), none⟩]
@[simp] def f68r4 : List ROper := [
  ⟨some 2, .mv (.c (.int .i64 (.ofNat 3))), none⟩]
@[simp] def f68r5 : List ROper := [
  ⟨some 10, .mv (.t 0), none⟩,
  ⟨some 11, .bin .eql (.t 10) (.c (.int .u8 (.ofNat 9))), none⟩,
  ⟨some 9, .mv (.t 11), none⟩]
@[simp] def f68r6 : List ROper := [
  ⟨some 2, .mv (.c (.int .i64 (.ofNat 4))), none⟩]
@[simp] def f68r7 : List ROper := [
  ⟨some 13, .mv (.t 0), none⟩,
  ⟨some 14, .bin .eql (.t 13) (.c (.int .u8 (.ofNat 31))), none⟩,
  ⟨some 12, .mv (.t 14), none⟩]
@[simp] def f68r8 : List ROper := [
  ⟨some 2, .mv (.c (.int .i64 (.ofNat 5))), none⟩]
@[simp] def f68r9 : List ROper := [
  ⟨some 16, .mv (.t 0), none⟩,
  ⟨some 17, .bin .eql (.t 16) (.c (.int .u8 (.ofNat 1))), none⟩,
  ⟨some 15, .mv (.t 17), none⟩]
@[simp] def f68r10 : List ROper := [
  ⟨some 2, .mv (.c (.int .i64 (.ofNat 6))), none⟩]
@[simp] def f68r11 : List ROper := [
  ⟨some 19, .mv (.t 0), none⟩,
  ⟨some 20, .bin .eql (.t 19) (.c (.int .u8 (.ofNat 2))), none⟩,
  ⟨some 18, .mv (.t 20), none⟩]
@[simp] def f68r12 : List ROper := [
  ⟨some 2, .mv (.c (.int .i64 (.ofNat 7))), none⟩]
@[simp] def f68r13 : List ROper := [
  ⟨some 22, .mv (.t 0), none⟩,
  ⟨some 23, .bin .eql (.t 22) (.c (.int .u8 (.ofNat 3))), none⟩,
  ⟨some 21, .mv (.t 23), none⟩]
@[simp] def f68r14 : List ROper := [
  ⟨some 2, .mv (.c (.int .i64 (.ofNat 8))), none⟩]
@[simp] def f68r15 : List ROper := [
  ⟨some 25, .mv (.t 0), none⟩,
  ⟨some 26, .bin .gtr (.t 25) (.c (.int .u8 (.ofNat 32))), none⟩,
  ⟨some 27, .mv (.t 26), none⟩,
  ⟨some 28, .mv (.t 0), some (27, true)⟩,
  ⟨some 29, .bin .leq (.t 28) (.c (.int .u8 (.ofNat 126))), some (27, true)⟩,
  ⟨some 30, .pick (.t 27) (.t 29) (.c (.bool false)), none⟩,
  ⟨some 24, .mv (.t 30), none⟩]
@[simp] def f68r16 : List ROper := [
  ⟨some 2, .mv (.c (.int .i64 (.ofNat 2))), none⟩]
@[simp] def f68r17 : List ROper := [
  ⟨some 2, .mv (.c (.int .i64 (.ofNat 0))), none⟩]
def f68 : RFunc := ⟨[.t 2], (.seq (.region f68r0 [0]) (.seq (.block 0 (.seq (.region f68r1 [0, 3]) (.cond (.t 3) (.seq (.region f68r2 [2]) .ret) (.seq (.region f68r3 [0, 6]) (.cond (.t 6) (.seq (.region f68r4 [2]) .ret) (.seq (.region f68r5 [0, 9]) (.cond (.t 9) (.seq (.region f68r6 [2]) .ret) (.seq (.region f68r7 [0, 12]) (.cond (.t 12) (.seq (.region f68r8 [2]) .ret) (.seq (.region f68r9 [0, 15]) (.cond (.t 15) (.seq (.region f68r10 [2]) .ret) (.seq (.region f68r11 [0, 18]) (.cond (.t 18) (.seq (.region f68r12 [2]) .ret) (.seq (.region f68r13 [0, 21]) (.cond (.t 21) (.seq (.region f68r14 [2]) .ret) (.seq (.region f68r15 [24]) (.cond (.t 24) (.seq (.region f68r16 [2]) .ret) .skip))))))))))))))))) (.seq (.region f68r17 [2]) .ret))), true⟩

/-! quire/cluster.each$1 -/
@[simp] def f69r0 : List ROper := [
  ⟨some 3, .mv (.c (.int .i64 (.ofNat 0))), none⟩]
@[simp] def f69r1 : List ROper := [
  ⟨some 5, .mv (.t 3), none⟩,
  ⟨some 6, .load 1 false (.t 1), none⟩,
  ⟨some 7, .len .str (.t 6), none⟩,
  ⟨some 8, .bin .lss (.t 5) (.t 7), none⟩]
@[simp] def f69r2 : List ROper := [
  ⟨some 9, .mv (.t 3), none⟩,
  ⟨some 10, .mv (.t 3), none⟩,
  ⟨some 11, .bin .add (.t 10) (.c (.int .i64 (.ofNat 1))), none⟩,
  ⟨some 12, .load 1 false (.t 1), none⟩,
  ⟨some 13, .mv (.t 3), none⟩,
  ⟨some 14, .index (.t 12) (.t 13), none⟩,
  ⟨some 15, .call 68 [(.t 14)], none⟩,
  ⟨some 16, .build [(.int .i64 (.ofNat 0)), (.int .i64 (.ofNat 0)), (.int .i64 (.ofNat 0))] [(0, 1, (.t 9)), (1, 1, (.t 11)), (2, 1, (.t 15))], none⟩,
  ⟨some 4, .alloc [(.int .i64 (.ofNat 0)), (.int .i64 (.ofNat 0)), (.int .i64 (.ofNat 0))], none⟩,
  ⟨none, .store 3 (.t 4) (.t 16), none⟩]
@[simp] def f69r3 : List ROper := [
  ⟨some 17, .faddr 2 (.t 4), none⟩,
  ⟨some 18, .load 1 false (.t 17), none⟩,
  ⟨some 19, .bin .eql (.t 18) (.c (.int .i64 (.ofNat 1))), none⟩,
  ⟨some 20, .mv (.t 19), none⟩,
  ⟨some 21, .faddr 1 (.t 4), some (20, true)⟩,
  ⟨some 22, .load 1 false (.t 21), some (20, true)⟩,
  ⟨some 23, .load 1 false (.t 1), some (20, true)⟩,
  ⟨some 24, .len .str (.t 23), some (20, true)⟩,
  ⟨some 25, .bin .lss (.t 22) (.t 24), some (20, true)⟩,
  ⟨some 26, .pick (.t 20) (.t 25) (.c (.bool false)), none⟩,
  ⟨some 27, .mv (.t 26), none⟩,
  ⟨some 28, .faddr 1 (.t 4), some (27, true)⟩,
  ⟨some 29, .load 1 false (.t 28), some (27, true)⟩,
  ⟨some 30, .mv (.t 3), some (27, true)⟩,
  ⟨some 31, .bin .add (.t 30) (.c (.int .i64 (.ofNat 3))), some (27, true)⟩,
  ⟨some 32, .bin .lss (.t 29) (.t 31), some (27, true)⟩,
  ⟨some 33, .pick (.t 27) (.t 32) (.c (.bool false)), none⟩,
  ⟨some 34, .mv (.t 33), none⟩,
  ⟨some 35, .load 1 false (.t 1), some (34, true)⟩,
  ⟨some 36, .faddr 1 (.t 4), some (34, true)⟩,
  ⟨some 37, .load 1 false (.t 36), some (34, true)⟩,
  ⟨some 38, .index (.t 35) (.t 37), some (34, true)⟩,
  ⟨some 39, .call 70 [(.t 38)], some (34, true)⟩,
  ⟨some 40, .pick (.t 34) (.t 39) (.c (.bool false)), none⟩]
@[simp] def f69r4 : List ROper := [
  ⟨some 41, .faddr 1 (.t 4), none⟩,
  ⟨some 42, .load 1 false (.t 41), none⟩,
  ⟨some 43, .bin .add (.t 42) (.c (.int .i64 (.ofNat 1))), none⟩,
  ⟨some 44, .faddr 1 (.t 4), none⟩,
  ⟨none, .store 1 (.t 44) (.t 43), none⟩]
def f69B0 : RC := (.seq (.seq (.region f69r3 [0, 1, 3, 4, 40]) (.cond (.t 40) .skip (.exit 2))) (.block 3 (.region f69r4 [0, 1, 3, 4])))
def f69L0 : RC := .loop [0, 1, 3, 4] f69B0
@[simp] def f69r5 : List ROper := [
  ⟨some 45, .mv (.t 0), none⟩,
  ⟨some 46, .load 3 true (.t 4), none⟩,
  ⟨some 47, .callv (.t 45) [(.t 46)], none⟩,
  ⟨some 48, .un .not (.t 47), none⟩]
@[simp] def f69r6 : List ROper := [
  ⟨some 49, .faddr 1 (.t 4), none⟩,
  ⟨some 50, .load 1 false (.t 49), none⟩,
  ⟨some 3, .mv (.t 50), none⟩]
def f69B1 : RC := (.seq (.seq (.region f69r1 [0, 1, 3, 8]) (.cond (.t 8) .skip (.exit 0))) (.block 1 (.seq (.region f69r2 [0, 1, 3, 4]) (.seq (.block 2 f69L0) (.seq (.seq (.region f69r5 [0, 1, 4, 48]) (.cond (.t 48) .ret .skip)) (.region f69r6 [0, 1, 3]))))))
def f69L1 : RC := .loop [0, 1, 3] f69B1
def f69 : RFunc := ⟨[], (.seq (.region f69r0 [0, 1, 3]) (.block 0 f69L1)), false⟩

/-! quire/cluster.accent -/
@[simp] def f70r0 : List ROper := [
  ⟨some 2, .mv (.c (.bool false)), none⟩]
@[simp] def f70r1 : List ROper := [
  ⟨some 3, .mv (.t 0), none⟩,
  ⟨some 4, .bin .eql (.t 3) (.c (.int .u8 (.ofNat 94))), none⟩,
  ⟨some 5, .mv (.t 4), none⟩,
  ⟨some 6, .mv (.t 0), some (5, false)⟩,
  ⟨some 7, .bin .eql (.t 6) (.c (.int .u8 (.ofNat 96))), some (5, false)⟩,
  ⟨some 8, .pick (.t 5) (.c (.bool true)) (.t 7), none⟩,
  ⟨some 9, .mv (.t 8), none⟩,
  ⟨some 10, .mv (.t 0), some (9, false)⟩,
  ⟨some 11, .bin .eql (.t 10) (.c (.int .u8 (.ofNat 126))), some (9, false)⟩,
  ⟨some 12, .pick (.t 9) (.c (.bool true)) (.t 11), none⟩,
  ⟨some 2, .mv (.t 12), none⟩]
def f70 : RFunc := ⟨[.t 2], (.seq (.region f70r0 [0]) (.seq (.region f70r1 [2]) .ret)), true⟩

/-! quire/quireref06.letter -/
@[simp] def f71r0 : List ROper := [
  ⟨some 2, .mv (.c (.bool false)), none⟩]
@[simp] def f71r1 : List ROper := [
  ⟨some 3, .mv (.t 0), none⟩,
  ⟨some 4, .bin .geq (.t 3) (.c (.int .u8 (.ofNat 97))), none⟩,
  ⟨some 5, .mv (.t 4), none⟩,
  ⟨some 6, .mv (.t 0), some (5, true)⟩,
  ⟨some 7, .bin .leq (.t 6) (.c (.int .u8 (.ofNat 122))), some (5, true)⟩,
  ⟨some 8, .pick (.t 5) (.t 7) (.c (.bool false)), none⟩,
  ⟨some 9, .mv (.t 8), none⟩,
  ⟨some 10, .mv (.t 0), some (9, false)⟩,
  ⟨some 11, .bin .geq (.t 10) (.c (.int .u8 (.ofNat 65))), some (9, false)⟩,
  ⟨some 12, .mv (.t 11), some (9, false)⟩,
  ⟨some 13, .mv (.t 0), some (12, true)⟩,
  ⟨some 14, .bin .leq (.t 13) (.c (.int .u8 (.ofNat 90))), some (12, true)⟩,
  ⟨some 15, .pick (.t 12) (.t 14) (.c (.bool false)), some (9, false)⟩,
  ⟨some 16, .pick (.t 9) (.c (.bool true)) (.t 15), none⟩,
  ⟨some 2, .mv (.t 16), none⟩]
def f71 : RFunc := ⟨[.t 2], (.seq (.region f71r0 [0]) (.seq (.region f71r1 [2]) .ret)), true⟩

/-! internal/stringslite.Index -/
@[simp] def f73r0 : List ROper := [
  ⟨some 4, .mv (.c (.int .i64 (.ofNat 0))), none⟩]
@[simp] def f73r1 : List ROper := [
  ⟨some 14, .mv (.t 1), none⟩,
  ⟨some 15, .len .str (.t 14), none⟩,
  ⟨some 5, .mv (.t 15), none⟩]
@[simp] def f73r2 : List ROper := [
  ⟨some 17, .mv (.t 5), none⟩,
  ⟨some 18, .bin .eql (.t 17) (.c (.int .i64 (.ofNat 0))), none⟩,
  ⟨some 19, .mv (.t 18), none⟩,
  ⟨some 20, .mv (.t 1), some (19, false)⟩,
  ⟨some 21, .mv (.t 0), some (19, false)⟩,
  ⟨some 22, .bin .eql (.t 20) (.t 21), some (19, false)⟩,
  ⟨some 23, .pick (.t 19) (.c (.bool true)) (.t 22), none⟩,
  ⟨some 16, .mv (.t 23), none⟩]
@[simp] def f73r3 : List ROper := [
  ⟨some 4, .mv (.c (.int .i64 (.ofNat 0))), none⟩]
@[simp] def f73r4 : List ROper := [
  ⟨some 25, .mv (.t 5), none⟩,
  ⟨some 26, .bin .eql (.t 25) (.c (.int .i64 (.ofNat 1))), none⟩,
  ⟨some 24, .mv (.t 26), none⟩]
@[simp] def f73r5 : List ROper := [
  ⟨some 27, .mv (.t 0), none⟩,
  ⟨some 28, .mv (.t 1), none⟩,
  ⟨some 29, .index (.t 28) (.c (.int .i64 (.ofNat 0))), none⟩,
  ⟨some 30, .call 61 [(.t 27), (.t 29)], none⟩,
  ⟨some 4, .mv (.t 30), none⟩]
@[simp] def f73r6 : List ROper := [
  ⟨some 32, .mv (.t 5), none⟩,
  ⟨some 33, .mv (.t 0), none⟩,
  ⟨some 34, .len .str (.t 33), none⟩,
  ⟨some 35, .bin .geq (.t 32) (.t 34), none⟩,
  ⟨some 31, .mv (.t 35), none⟩]
@[simp] def f73r7 : List ROper := [
  ⟨some 4, .mv (.c (.int .i64 (.negSucc 0))), none⟩]
@[simp] def f73r8 : List ROper := [
  ⟨some 37, .mv (.t 5), none⟩,
  ⟨some 38, .fail, none⟩,
  ⟨some 39, .bin .leq (.t 37) (.t 38), none⟩,
  ⟨some 40, .mv (.t 39), none⟩,
  ⟨some 41, .mv (.t 0), some (40, true)⟩,
  ⟨some 42, .len .str (.t 41), some (40, true)⟩,
  ⟨some 43, .bin .leq (.t 42) (.c (.int .i64 (.ofNat 64))), some (40, true)⟩,
  ⟨some 44, .pick (.t 40) (.t 43) (.c (.bool false)), none⟩,
  ⟨some 36, .mv (.t 44), none⟩]
@[simp] def f73r9 : List ROper := [
  ⟨some 45, .mv (.t 0), none⟩,
  ⟨some 46, .mv (.t 1), none⟩,
  ⟨some 47, .call 75 [(.t 45), (.t 46)], none⟩,
  ⟨some 4, .mv (.t 47), none⟩]
@[simp] def f73r10 : List ROper := [
  ⟨some 48, .mv (.t 1), none⟩,
  ⟨some 49, .index (.t 48) (.c (.int .i64 (.ofNat 0))), none⟩,
  ⟨some 6, .mv (.t 49), none⟩]
@[simp] def f73r11 : List ROper := [
  ⟨some 50, .mv (.t 1), none⟩,
  ⟨some 51, .index (.t 50) (.c (.int .i64 (.ofNat 1))), none⟩,
  ⟨some 7, .mv (.t 51), none⟩]
@[simp] def f73r12 : List ROper := [
  ⟨some 8, .mv (.c (.int .i64 (.ofNat 0))), none⟩]
@[simp] def f73r13 : List ROper := [
  ⟨some 52, .mv (.t 0), none⟩,
  ⟨some 53, .len .str (.t 52), none⟩,
  ⟨some 54, .mv (.t 5), none⟩,
  ⟨some 55, .bin .sub (.t 53) (.t 54), none⟩,
  ⟨some 56, .bin .add (.t 55) (.c (.int .i64 (.ofNat 1))), none⟩,
  ⟨some 9, .mv (.t 56), none⟩]
@[simp] def f73r14 : List ROper := [
  ⟨some 10, .mv (.c (.int .i64 (.ofNat 0))), none⟩]
@[simp] def f73r15 : List ROper := [
  ⟨some 57, .mv (.t 8), none⟩,
  ⟨some 58, .mv (.t 9), none⟩,
  ⟨some 59, .bin .lss (.t 57) (.t 58), none⟩]
@[simp] def f73r16 : List ROper := [
  ⟨some 60, .mv (.t 0), none⟩,
  ⟨some 61, .mv (.t 8), none⟩,
  ⟨some 62, .index (.t 60) (.t 61), none⟩,
  ⟨some 63, .mv (.t 6), none⟩,
  ⟨some 64, .bin .neq (.t 62) (.t 63), none⟩]
@[simp] def f73r17 : List ROper := [
  ⟨some 65, .mv (.t 0), none⟩,
  ⟨some 66, .mv (.t 8), none⟩,
  ⟨some 67, .bin .add (.t 66) (.c (.int .i64 (.ofNat 1))), none⟩,
  ⟨some 68, .mv (.t 9), none⟩,
  ⟨some 69, .slice true 1 (.t 65) (some (.t 67)) (some (.t 68)) none, none⟩,
  ⟨some 70, .mv (.t 6), none⟩,
  ⟨some 71, .call 61 [(.t 69), (.t 70)], none⟩,
  ⟨some 11, .mv (.t 71), none⟩]
@[simp] def f73r18 : List ROper := [
  ⟨some 72, .mv (.t 11), none⟩,
  ⟨some 73, .bin .lss (.t 72) (.c (.int .i64 (.ofNat 0))), none⟩]
@[simp] def f73r19 : List ROper := [
  ⟨some 4, .mv (.c (.int .i64 (.negSucc 0))), none⟩]
@[simp] def f73r20 : List ROper := [
  ⟨some 74, .mv (.t 8), none⟩,
  ⟨some 75, .mv (.t 11), none⟩,
  ⟨some 76, .bin .add (.t 75) (.c (.int .i64 (.ofNat 1))), none⟩,
  ⟨some 77, .bin .add (.t 74) (.t 76), none⟩,
  ⟨some 8, .mv (.t 77), none⟩]
@[simp] def f73r21 : List ROper := [
  ⟨some 78, .mv (.t 0), none⟩,
  ⟨some 79, .mv (.t 8), none⟩,
  ⟨some 80, .bin .add (.t 79) (.c (.int .i64 (.ofNat 1))), none⟩,
  ⟨some 81, .index (.t 78) (.t 80), none⟩,
  ⟨some 82, .mv (.t 7), none⟩,
  ⟨some 83, .bin .eql (.t 81) (.t 82), none⟩,
  ⟨some 84, .mv (.t 83), none⟩,
  ⟨some 85, .mv (.t 0), some (84, true)⟩,
  ⟨some 86, .mv (.t 8), some (84, true)⟩,
  ⟨some 87, .mv (.t 8), some (84, true)⟩,
  ⟨some 88, .mv (.t 5), some (84, true)⟩,
  ⟨some 89, .bin .add (.t 87) (.t 88), some (84, true)⟩,
  ⟨some 90, .slice true 1 (.t 85) (some (.t 86)) (some (.t 89)) none, some (84, true)⟩,
  ⟨some 91, .mv (.t 1), some (84, true)⟩,
  ⟨some 92, .bin .eql (.t 90) (.t 91), some (84, true)⟩,
  ⟨some 93, .pick (.t 84) (.t 92) (.c (.bool false)), none⟩]
@[simp] def f73r22 : List ROper := [
  ⟨some 94, .mv (.t 8), none⟩,
  ⟨some 4, .mv (.t 94), none⟩]
@[simp] def f73r23 : List ROper := [
  ⟨some 95, .mv (.t 8), none⟩,
  ⟨some 96, .bin .add (.t 95) (.c (.int .i64 (.ofNat 1))), none⟩,
  ⟨some 8, .mv (.t 96), none⟩]
@[simp] def f73r24 : List ROper := [
  ⟨some 97, .mv (.t 10), none⟩,
  ⟨some 98, .bin .add (.t 97) (.c (.int .i64 (.ofNat 1))), none⟩,
  ⟨some 10, .mv (.t 98), none⟩]
@[simp] def f73r25 : List ROper := [
  ⟨some 99, .mv (.t 5), none⟩,
  ⟨some 100, .fail, none⟩,
  ⟨some 101, .bin .leq (.t 99) (.t 100), none⟩,
  ⟨some 102, .mv (.t 101), none⟩,
  ⟨some 103, .mv (.t 10), some (102, true)⟩,
  ⟨some 104, .mv (.t 8), some (102, true)⟩,
  ⟨some 105, .call 76 [(.t 104)], some (102, true)⟩,
  ⟨some 106, .bin .gtr (.t 103) (.t 105), some (102, true)⟩,
  ⟨some 107, .pick (.t 102) (.t 106) (.c (.bool false)), none⟩]
@[simp] def f73r26 : List ROper := [
  ⟨some 108, .mv (.t 0), none⟩,
  ⟨some 109, .mv (.t 8), none⟩,
  ⟨some 110, .slice true 1 (.t 108) (some (.t 109)) none none, none⟩,
  ⟨some 111, .mv (.t 1), none⟩,
  ⟨some 112, .call 75 [(.t 110), (.t 111)], none⟩,
  ⟨some 12, .mv (.t 112), none⟩]
@[simp] def f73r27 : List ROper := [
  ⟨some 113, .mv (.t 12), none⟩,
  ⟨some 114, .bin .geq (.t 113) (.c (.int .i64 (.ofNat 0))), none⟩]
@[simp] def f73r28 : List ROper := [
  ⟨some 115, .mv (.t 12), none⟩,
  ⟨some 116, .mv (.t 8), none⟩,
  ⟨some 117, .bin .add (.t 115) (.t 116), none⟩,
  ⟨some 4, .mv (.t 117), none⟩]
@[simp] def f73r29 : List ROper := [
  ⟨some 4, .mv (.c (.int .i64 (.negSucc 0))), none⟩]
@[simp] def f73r30 : List ROper := [
  ⟨some 118, .mv (.t 5), none⟩,
  ⟨some 119, .fail, none⟩,
  ⟨some 120, .bin .gtr (.t 118) (.t 119), none⟩,
  ⟨some 121, .mv (.t 120), none⟩,
  ⟨some 122, .mv (.t 10), some (121, true)⟩,
  ⟨some 123, .mv (.t 8), some (121, true)⟩,
  ⟨some 124, .bin .shr (.t 123) (.c (.int .u64 (.ofNat 4))), some (121, true)⟩,
  ⟨some 125, .bin .add (.c (.int .i64 (.ofNat 4))) (.t 124), some (121, true)⟩,
  ⟨some 126, .bin .geq (.t 122) (.t 125), some (121, true)⟩,
  ⟨some 127, .pick (.t 121) (.t 126) (.c (.bool false)), none⟩,
  ⟨some 128, .mv (.t 127), none⟩,
  ⟨some 129, .mv (.t 8), some (128, true)⟩,
  ⟨some 130, .mv (.t 9), some (128, true)⟩,
  ⟨some 131, .bin .lss (.t 129) (.t 130), some (128, true)⟩,
  ⟨some 132, .pick (.t 128) (.t 131) (.c (.bool false)), none⟩]
@[simp] def f73r31 : List ROper := [
  ⟨some 133, .mv (.t 0), none⟩,
  ⟨some 134, .mv (.t 8), none⟩,
  ⟨some 135, .slice true 1 (.t 133) (some (.t 134)) none none, none⟩,
  ⟨some 136, .mv (.t 1), none⟩,
  ⟨some 137, .call 77 [(.t 135), (.t 136)], none⟩,
  ⟨some 13, .mv (.t 137), none⟩]
@[simp] def f73r32 : List ROper := [
  ⟨some 138, .mv (.t 13), none⟩,
  ⟨some 139, .bin .lss (.t 138) (.c (.int .i64 (.ofNat 0))), none⟩]
@[simp] def f73r33 : List ROper := [
  ⟨some 4, .mv (.c (.int .i64 (.negSucc 0))), none⟩]
@[simp] def f73r34 : List ROper := [
  ⟨some 140, .mv (.t 8), none⟩,
  ⟨some 141, .mv (.t 13), none⟩,
  ⟨some 142, .bin .add (.t 140) (.t 141), none⟩,
  ⟨some 4, .mv (.t 142), none⟩]
def f73B0 : RC := (.seq (.seq (.region f73r15 [0, 1, 5, 6, 7, 8, 9, 10, 59]) (.cond (.t 59) .skip (.exit 1))) (.block 2 (.seq (.seq (.region f73r16 [0, 1, 5, 6, 7, 8, 9, 10, 64]) (.cond (.t 64) (.seq (.region f73r17 [0, 1, 5, 6, 7, 8, 9, 10, 11]) (.seq (.seq (.region f73r18 [0, 1, 5, 6, 7, 8, 9, 10, 11, 73]) (.cond (.t 73) (.seq (.region f73r19 [4]) .ret) .skip)) (.region f73r20 [0, 1, 5, 6, 7, 8, 9, 10]))) .skip)) (.seq (.seq (.region f73r21 [0, 1, 5, 6, 7, 8, 9, 10, 93]) (.cond (.t 93) (.seq (.region f73r22 [4]) .ret) .skip)) (.seq (.region f73r23 [0, 1, 5, 6, 7, 8, 9, 10]) (.seq (.region f73r24 [0, 1, 5, 6, 7, 8, 9, 10]) (.seq (.region f73r25 [0, 1, 5, 6, 7, 8, 9, 10, 107]) (.cond (.t 107) (.seq (.region f73r26 [8, 12]) (.seq (.seq (.region f73r27 [8, 12, 114]) (.cond (.t 114) (.seq (.region f73r28 [4]) .ret) .skip)) (.seq (.region f73r29 [4]) .ret))) (.seq (.region f73r30 [0, 1, 5, 6, 7, 8, 9, 10, 132]) (.cond (.t 132) (.seq (.region f73r31 [8, 13]) (.seq (.seq (.region f73r32 [8, 13, 139]) (.cond (.t 139) (.seq (.region f73r33 [4]) .ret) .skip)) (.seq (.region f73r34 [4]) .ret))) .skip))))))))))
def f73L0 : RC := .loop [0, 1, 5, 6, 7, 8, 9, 10] f73B0
@[simp] def f73r35 : List ROper := [
  ⟨some 4, .mv (.c (.int .i64 (.negSucc 0))), none⟩]
def f73 : RFunc := ⟨[.t 4], (.seq (.region f73r0 [0, 1]) (.seq (.region f73r1 [0, 1, 5]) (.seq (.block 0 (.seq (.region f73r2 [0, 1, 5, 16]) (.cond (.t 16) (.seq (.region f73r3 [4]) .ret) (.seq (.region f73r4 [0, 1, 5, 24]) (.cond (.t 24) (.seq (.region f73r5 [4]) .ret) (.seq (.region f73r6 [0, 1, 5, 31]) (.cond (.t 31) (.seq (.region f73r7 [4]) .ret) (.seq (.region f73r8 [0, 1, 5, 36]) (.cond (.t 36) (.seq (.region f73r9 [4]) .ret) .skip))))))))) (.seq (.region f73r10 [0, 1, 5, 6]) (.seq (.region f73r11 [0, 1, 5, 6, 7]) (.seq (.region f73r12 [0, 1, 5, 6, 7, 8]) (.seq (.region f73r13 [0, 1, 5, 6, 7, 8, 9]) (.seq (.region f73r14 [0, 1, 5, 6, 7, 8, 9, 10]) (.seq (.block 1 f73L0) (.seq (.region f73r35 [4]) .ret)))))))))), true⟩

/-! quire/cluster.letter -/
@[simp] def f74r0 : List ROper := [
  ⟨some 2, .mv (.c (.bool false)), none⟩]
@[simp] def f74r1 : List ROper := [
  ⟨some 3, .mv (.t 0), none⟩,
  ⟨some 4, .bin .geq (.t 3) (.c (.int .u8 (.ofNat 97))), none⟩,
  ⟨some 5, .mv (.t 4), none⟩,
  ⟨some 6, .mv (.t 0), some (5, true)⟩,
  ⟨some 7, .bin .leq (.t 6) (.c (.int .u8 (.ofNat 122))), some (5, true)⟩,
  ⟨some 8, .pick (.t 5) (.t 7) (.c (.bool false)), none⟩,
  ⟨some 9, .mv (.t 8), none⟩,
  ⟨some 10, .mv (.t 0), some (9, false)⟩,
  ⟨some 11, .bin .geq (.t 10) (.c (.int .u8 (.ofNat 65))), some (9, false)⟩,
  ⟨some 12, .mv (.t 11), some (9, false)⟩,
  ⟨some 13, .mv (.t 0), some (12, true)⟩,
  ⟨some 14, .bin .leq (.t 13) (.c (.int .u8 (.ofNat 90))), some (12, true)⟩,
  ⟨some 15, .pick (.t 12) (.t 14) (.c (.bool false)), some (9, false)⟩,
  ⟨some 16, .pick (.t 9) (.c (.bool true)) (.t 15), none⟩,
  ⟨some 2, .mv (.t 16), none⟩]
def f74 : RFunc := ⟨[.t 2], (.seq (.region f74r0 [0]) (.seq (.region f74r1 [2]) .ret)), true⟩

/-! internal/bytealg.Cutover -/
@[simp] def f76r0 : List ROper := [
  ⟨some 2, .mv (.c (.int .i64 (.ofNat 0))), none⟩]
@[simp] def f76r1 : List ROper := [
  ⟨some 3, .mv (.t 0), none⟩,
  ⟨some 4, .bin .add (.t 3) (.c (.int .i64 (.ofNat 16))), none⟩,
  ⟨some 5, .bin .quo (.t 4) (.c (.int .i64 (.ofNat 8))), none⟩,
  ⟨some 2, .mv (.t 5), none⟩]
def f76 : RFunc := ⟨[.t 2], (.seq (.region f76r0 [0]) (.seq (.region f76r1 [2]) .ret)), true⟩

/-! internal/bytealg.IndexRabinKarp[string] -/
@[simp] def f77r0 : List ROper := [
  ⟨some 4, .mv (.c (.int .i64 (.ofNat 0))), none⟩]
@[simp] def f77r1 : List ROper := [
  ⟨some 12, .mv (.t 1), none⟩,
  ⟨some 13, .call 78 [(.t 12)], none⟩,
  ⟨some 11, .mv (.t 13), none⟩,
  ⟨some 14, .extract (.t 11) 0, none⟩,
  ⟨some 15, .extract (.t 11) 1, none⟩,
  ⟨some 5, .mv (.t 14), none⟩,
  ⟨some 6, .mv (.t 15), none⟩]
@[simp] def f77r2 : List ROper := [
  ⟨some 16, .mv (.t 1), none⟩,
  ⟨some 17, .len .str (.t 16), none⟩,
  ⟨some 7, .mv (.t 17), none⟩]
@[simp] def f77r3 : List ROper := [
  ⟨some 8, .mv (.c (.int .u32 (.ofNat 0))), none⟩]
@[simp] def f77r4 : List ROper := [
  ⟨some 9, .mv (.c (.int .i64 (.ofNat 0))), none⟩]
@[simp] def f77r5 : List ROper := [
  ⟨some 18, .mv (.t 9), none⟩,
  ⟨some 19, .mv (.t 7), none⟩,
  ⟨some 20, .bin .lss (.t 18) (.t 19), none⟩]
@[simp] def f77r6 : List ROper := [
  ⟨some 23, .mv (.t 8), none⟩,
  ⟨some 24, .bin .mul (.t 23) (.c (.int .u32 (.ofNat 16777619))), none⟩,
  ⟨some 25, .mv (.t 0), none⟩,
  ⟨some 26, .mv (.t 9), none⟩,
  ⟨some 27, .index (.t 25) (.t 26), none⟩,
  ⟨some 28, .i2i .u32 (.t 27), none⟩,
  ⟨some 29, .bin .add (.t 24) (.t 28), none⟩,
  ⟨some 8, .mv (.t 29), none⟩]
@[simp] def f77r7 : List ROper := [
  ⟨some 21, .mv (.t 9), none⟩,
  ⟨some 22, .bin .add (.t 21) (.c (.int .i64 (.ofNat 1))), none⟩,
  ⟨some 9, .mv (.t 22), none⟩]
def f77B0 : RC := (.seq (.seq (.region f77r5 [0, 1, 5, 6, 7, 8, 9, 20]) (.cond (.t 20) .skip (.exit 0))) (.seq (.block 1 (.region f77r6 [0, 1, 5, 6, 7, 8, 9])) (.region f77r7 [0, 1, 5, 6, 7, 8, 9])))
def f77L0 : RC := .loop [0, 1, 5, 6, 7, 8, 9] f77B0
@[simp] def f77r8 : List ROper := [
  ⟨some 30, .mv (.t 8), none⟩,
  ⟨some 31, .mv (.t 5), none⟩,
  ⟨some 32, .bin .eql (.t 30) (.t 31), none⟩,
  ⟨some 33, .mv (.t 32), none⟩,
  ⟨some 34, .mv (.t 0), some (33, true)⟩,
  ⟨some 35, .mv (.t 7), some (33, true)⟩,
  ⟨some 36, .slice true 1 (.t 34) none (some (.t 35)) none, some (33, true)⟩,
  ⟨some 37, .mv (.t 1), some (33, true)⟩,
  ⟨some 38, .bin .eql (.t 36) (.t 37), some (33, true)⟩,
  ⟨some 39, .pick (.t 33) (.t 38) (.c (.bool false)), none⟩]
@[simp] def f77r9 : List ROper := [
  ⟨some 4, .mv (.c (.int .i64 (.ofNat 0))), none⟩]
@[simp] def f77r10 : List ROper := [
  ⟨some 40, .mv (.t 7), none⟩,
  ⟨some 10, .mv (.t 40), none⟩]
@[simp] def f77r11 : List ROper := [
  ⟨some 41, .mv (.t 10), none⟩,
  ⟨some 42, .mv (.t 0), none⟩,
  ⟨some 43, .len .str (.t 42), none⟩,
  ⟨some 44, .bin .lss (.t 41) (.t 43), none⟩]
@[simp] def f77r12 : List ROper := [
  ⟨some 45, .mv (.t 8), none⟩,
  ⟨some 46, .bin .mul (.t 45) (.c (.int .u32 (.ofNat 16777619))), none⟩,
  ⟨some 8, .mv (.t 46), none⟩]
@[simp] def f77r13 : List ROper := [
  ⟨some 47, .mv (.t 8), none⟩,
  ⟨some 48, .mv (.t 0), none⟩,
  ⟨some 49, .mv (.t 10), none⟩,
  ⟨some 50, .index (.t 48) (.t 49), none⟩,
  ⟨some 51, .i2i .u32 (.t 50), none⟩,
  ⟨some 52, .bin .add (.t 47) (.t 51), none⟩,
  ⟨some 8, .mv (.t 52), none⟩]
@[simp] def f77r14 : List ROper := [
  ⟨some 53, .mv (.t 8), none⟩,
  ⟨some 54, .mv (.t 6), none⟩,
  ⟨some 55, .mv (.t 0), none⟩,
  ⟨some 56, .mv (.t 10), none⟩,
  ⟨some 57, .mv (.t 7), none⟩,
  ⟨some 58, .bin .sub (.t 56) (.t 57), none⟩,
  ⟨some 59, .index (.t 55) (.t 58), none⟩,
  ⟨some 60, .i2i .u32 (.t 59), none⟩,
  ⟨some 61, .bin .mul (.t 54) (.t 60), none⟩,
  ⟨some 62, .bin .sub (.t 53) (.t 61), none⟩,
  ⟨some 8, .mv (.t 62), none⟩]
@[simp] def f77r15 : List ROper := [
  ⟨some 63, .mv (.t 10), none⟩,
  ⟨some 64, .bin .add (.t 63) (.c (.int .i64 (.ofNat 1))), none⟩,
  ⟨some 10, .mv (.t 64), none⟩]
@[simp] def f77r16 : List ROper := [
  ⟨some 65, .mv (.t 8), none⟩,
  ⟨some 66, .mv (.t 5), none⟩,
  ⟨some 67, .bin .eql (.t 65) (.t 66), none⟩,
  ⟨some 68, .mv (.t 67), none⟩,
  ⟨some 69, .mv (.t 0), some (68, true)⟩,
  ⟨some 70, .mv (.t 10), some (68, true)⟩,
  ⟨some 71, .mv (.t 7), some (68, true)⟩,
  ⟨some 72, .bin .sub (.t 70) (.t 71), some (68, true)⟩,
  ⟨some 73, .mv (.t 10), some (68, true)⟩,
  ⟨some 74, .slice true 1 (.t 69) (some (.t 72)) (some (.t 73)) none, some (68, true)⟩,
  ⟨some 75, .mv (.t 1), some (68, true)⟩,
  ⟨some 76, .bin .eql (.t 74) (.t 75), some (68, true)⟩,
  ⟨some 77, .pick (.t 68) (.t 76) (.c (.bool false)), none⟩]
@[simp] def f77r17 : List ROper := [
  ⟨some 78, .mv (.t 10), none⟩,
  ⟨some 79, .mv (.t 7), none⟩,
  ⟨some 80, .bin .sub (.t 78) (.t 79), none⟩,
  ⟨some 4, .mv (.t 80), none⟩]
def f77B1 : RC := (.seq (.seq (.region f77r11 [0, 1, 5, 6, 7, 8, 10, 44]) (.cond (.t 44) .skip (.exit 2))) (.block 3 (.seq (.region f77r12 [0, 1, 5, 6, 7, 8, 10]) (.seq (.region f77r13 [0, 1, 5, 6, 7, 8, 10]) (.seq (.region f77r14 [0, 1, 5, 6, 7, 8, 10]) (.seq (.region f77r15 [0, 1, 5, 6, 7, 8, 10]) (.seq (.region f77r16 [0, 1, 5, 6, 7, 8, 10, 77]) (.cond (.t 77) (.seq (.region f77r17 [4]) .ret) .skip))))))))
def f77L1 : RC := .loop [0, 1, 5, 6, 7, 8, 10] f77B1
@[simp] def f77r18 : List ROper := [
  ⟨some 4, .mv (.c (.int .i64 (.negSucc 0))), none⟩]
def f77 : RFunc := ⟨[.t 4], (.seq (.region f77r0 [0, 1]) (.seq (.region f77r1 [0, 1, 5, 6]) (.seq (.region f77r2 [0, 1, 5, 6, 7]) (.seq (.region f77r3 [0, 1, 5, 6, 7, 8]) (.seq (.seq (.region f77r4 [0, 1, 5, 6, 7, 8, 9]) (.block 0 f77L0)) (.seq (.seq (.region f77r8 [0, 1, 5, 6, 7, 8, 39]) (.cond (.t 39) (.seq (.region f77r9 [4]) .ret) .skip)) (.seq (.seq (.region f77r10 [0, 1, 5, 6, 7, 8, 10]) (.block 2 f77L1)) (.seq (.region f77r18 [4]) .ret)))))))), true⟩

/-! internal/bytealg.hashStr[string] -/
@[simp] def f78r0 : List ROper := [
  ⟨some 2, .mv (.c (.int .u32 (.ofNat 0))), none⟩,
  ⟨some 3, .mv (.c (.int .u32 (.ofNat 0))), none⟩]
@[simp] def f78r1 : List ROper := [
  ⟨some 4, .mv (.c (.int .u32 (.ofNat 0))), none⟩]
@[simp] def f78r2 : List ROper := [
  ⟨some 5, .mv (.c (.int .i64 (.ofNat 0))), none⟩]
@[simp] def f78r3 : List ROper := [
  ⟨some 9, .mv (.t 5), none⟩,
  ⟨some 10, .mv (.t 0), none⟩,
  ⟨some 11, .len .str (.t 10), none⟩,
  ⟨some 12, .bin .lss (.t 9) (.t 11), none⟩]
@[simp] def f78r4 : List ROper := [
  ⟨some 15, .mv (.t 4), none⟩,
  ⟨some 16, .bin .mul (.t 15) (.c (.int .u32 (.ofNat 16777619))), none⟩,
  ⟨some 17, .mv (.t 0), none⟩,
  ⟨some 18, .mv (.t 5), none⟩,
  ⟨some 19, .index (.t 17) (.t 18), none⟩,
  ⟨some 20, .i2i .u32 (.t 19), none⟩,
  ⟨some 21, .bin .add (.t 16) (.t 20), none⟩,
  ⟨some 4, .mv (.t 21), none⟩]
@[simp] def f78r5 : List ROper := [
  ⟨some 13, .mv (.t 5), none⟩,
  ⟨some 14, .bin .add (.t 13) (.c (.int .i64 (.ofNat 1))), none⟩,
  ⟨some 5, .mv (.t 14), none⟩]
def f78B0 : RC := (.seq (.seq (.region f78r3 [0, 4, 5, 12]) (.cond (.t 12) .skip (.exit 0))) (.seq (.block 1 (.region f78r4 [0, 4, 5])) (.region f78r5 [0, 4, 5])))
def f78L0 : RC := .loop [0, 4, 5] f78B0
@[simp] def f78r6 : List ROper := [
  ⟨some 6, .mv (.c (.int .u32 (.ofNat 1))), none⟩,
  ⟨some 7, .mv (.c (.int .u32 (.ofNat 16777619))), none⟩]
@[simp] def f78r7 : List ROper := [
  ⟨some 22, .mv (.t 0), none⟩,
  ⟨some 23, .len .str (.t 22), none⟩,
  ⟨some 8, .mv (.t 23), none⟩]
@[simp] def f78r8 : List ROper := [
  ⟨some 24, .mv (.t 8), none⟩,
  ⟨some 25, .bin .gtr (.t 24) (.c (.int .i64 (.ofNat 0))), none⟩]
@[simp] def f78r9 : List ROper := [
  ⟨some 28, .mv (.t 8), none⟩,
  ⟨some 29, .bin .and (.t 28) (.c (.int .i64 (.ofNat 1))), none⟩,
  ⟨some 30, .bin .neq (.t 29) (.c (.int .i64 (.ofNat 0))), none⟩]
@[simp] def f78r10 : List ROper := [
  ⟨some 31, .mv (.t 6), none⟩,
  ⟨some 32, .mv (.t 7), none⟩,
  ⟨some 33, .bin .mul (.t 31) (.t 32), none⟩,
  ⟨some 6, .mv (.t 33), none⟩]
@[simp] def f78r11 : List ROper := [
  ⟨some 34, .mv (.t 7), none⟩,
  ⟨some 35, .mv (.t 7), none⟩,
  ⟨some 36, .bin .mul (.t 34) (.t 35), none⟩,
  ⟨some 7, .mv (.t 36), none⟩]
@[simp] def f78r12 : List ROper := [
  ⟨some 26, .mv (.t 8), none⟩,
  ⟨some 27, .bin .shr (.t 26) (.c (.int .u64 (.ofNat 1))), none⟩,
  ⟨some 8, .mv (.t 27), none⟩]
def f78B1 : RC := (.seq (.seq (.region f78r8 [4, 6, 7, 8, 25]) (.cond (.t 25) .skip (.exit 2))) (.seq (.block 3 (.seq (.seq (.region f78r9 [4, 6, 7, 8, 30]) (.cond (.t 30) (.region f78r10 [4, 6, 7, 8]) .skip)) (.region f78r11 [4, 6, 7, 8]))) (.region f78r12 [4, 6, 7, 8])))
def f78L1 : RC := .loop [4, 6, 7, 8] f78B1
@[simp] def f78r13 : List ROper := [
  ⟨some 37, .mv (.t 4), none⟩,
  ⟨some 38, .mv (.t 6), none⟩,
  ⟨some 2, .mv (.t 37), none⟩,
  ⟨some 3, .mv (.t 38), none⟩]
def f78 : RFunc := ⟨[.t 2, .t 3], (.seq (.region f78r0 [0]) (.seq (.region f78r1 [0, 4]) (.seq (.seq (.region f78r2 [0, 4, 5]) (.block 0 f78L0)) (.seq (.region f78r6 [0, 4, 6, 7]) (.seq (.seq (.region f78r7 [4, 6, 7, 8]) (.block 2 f78L1)) (.seq (.region f78r13 [2, 3]) .ret)))))), true⟩

def tree : TT := (.node 40 (.node 21 (.node 12 (.node 7 (.node 5 (.node 4 (.leaf 3 (.code f3)) (.leaf 4 (.code f4))) (.node 6 (.leaf 5 (.code f5)) (.leaf 6 (.code f6)))) (.node 9 (.node 8 (.leaf 7 (.code f7)) (.leaf 8 (.code f8))) (.node 10 (.leaf 9 (.code f9)) (.node 11 (.leaf 10 (.code f10)) (.leaf 11 (.code f11)))))) (.node 16 (.node 14 (.node 13 (.leaf 12 (.code f12)) (.leaf 13 (.code f13))) (.node 15 (.leaf 14 (.code f14)) (.leaf 15 (.code f15)))) (.node 18 (.node 17 (.leaf 16 (.code f16)) (.leaf 17 (.code f17))) (.node 19 (.leaf 18 (.code f18)) (.node 20 (.leaf 19 (.code f19)) (.leaf 20 (.code f20))))))) (.node 30 (.node 25 (.node 23 (.node 22 (.leaf 21 (.code f21)) (.leaf 22 (.code f22))) (.node 24 (.leaf 23 (.code f23)) (.leaf 24 (.code f24)))) (.node 27 (.node 26 (.leaf 25 (.code f25)) (.leaf 26 (.code f26))) (.node 28 (.leaf 27 (.code f27)) (.node 29 (.leaf 28 (.code f28)) (.leaf 29 (.code f29)))))) (.node 35 (.node 32 (.node 31 (.leaf 30 (.code f30)) (.leaf 31 (.code f31))) (.node 33 (.leaf 32 (.code f32)) (.node 34 (.leaf 33 (.code f33)) (.leaf 34 (.code f34))))) (.node 37 (.node 36 (.leaf 35 (.code f35)) (.leaf 36 (.code f36))) (.node 38 (.leaf 37 (.code f37)) (.node 39 (.leaf 38 (.code f38)) (.leaf 39 (.code f39)))))))) (.node 59 (.node 49 (.node 44 (.node 42 (.node 41 (.leaf 40 (.code f40)) (.leaf 41 (.code f41))) (.node 43 (.leaf 42 (.code f42)) (.leaf 43 (.code f43)))) (.node 46 (.node 45 (.leaf 44 (.code f44)) (.leaf 45 (.code f45))) (.node 47 (.leaf 46 (.code f46)) (.node 48 (.leaf 47 (.code f47)) (.leaf 48 (.code f48)))))) (.node 54 (.node 51 (.node 50 (.leaf 49 (.code f49)) (.leaf 50 (.code f50))) (.node 52 (.leaf 51 (.code f51)) (.node 53 (.leaf 52 (.code f52)) (.leaf 53 (.code f53))))) (.node 56 (.node 55 (.leaf 54 (.code f54)) (.leaf 55 (.code f55))) (.node 57 (.leaf 56 (.code f56)) (.node 58 (.leaf 57 (.code f57)) (.leaf 58 (.code f58))))))) (.node 68 (.node 63 (.node 61 (.node 60 (.leaf 59 (.code f59)) (.leaf 60 (.code f60))) (.node 62 (.leaf 61 (.code f61)) (.leaf 62 (.code f62)))) (.node 65 (.node 64 (.leaf 63 (.code f63)) (.leaf 64 (.prim countByteD))) (.node 66 (.leaf 65 (.code f65)) (.node 67 (.leaf 66 (.code f66)) (.leaf 67 (.code f67)))))) (.node 73 (.node 70 (.node 69 (.leaf 68 (.code f68)) (.leaf 69 (.code f69))) (.node 71 (.leaf 70 (.code f70)) (.node 72 (.leaf 71 (.code f71)) (.leaf 72 (.prim indexByteD))))) (.node 76 (.node 74 (.leaf 73 (.code f73)) (.leaf 74 (.code f74))) (.node 77 (.leaf 76 (.code f76)) (.node 78 (.leaf 77 (.code f77)) (.leaf 78 (.code f78)))))))))

def fms : List (Nat × FuncId) := [(3, 3), (4, 4), (5, 5), (6, 6), (7, 7), (8, 8), (9, 9), (10, 10), (11, 11), (12, 12), (13, 13), (14, 14), (15, 15), (16, 16), (17, 17), (18, 18), (19, 19), (20, 20), (21, 21), (22, 22), (23, 23), (24, 24), (25, 25), (26, 26), (27, 27), (28, 28), (29, 29), (30, 30), (31, 31), (32, 32), (33, 33), (34, 34), (35, 35), (36, 36), (37, 37), (38, 38), (39, 39), (40, 40), (41, 41), (42, 42), (43, 43), (44, 44), (45, 45), (46, 46), (47, 47), (48, 48), (49, 49), (50, 50), (51, 51), (52, 52), (53, 53), (54, 54), (55, 55), (56, 56), (57, 57), (58, 58), (59, 59), (60, 60), (61, 61), (62, 62), (63, 63), (64, 64), (65, 65), (66, 66), (67, 67), (68, 68), (69, 69), (70, 70), (71, 71), (72, 72), (73, 73), (74, 74), (75, 75), (76, 76), (77, 77), (78, 78), (100010, 10)]

def env : List (Nat × List Nat) := []

end Go.D.Tab
