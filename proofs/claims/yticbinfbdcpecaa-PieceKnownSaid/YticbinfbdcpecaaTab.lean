/-
The code of what the laws reach, as a table of the small language. Printed by wip/gen.
-/
import Derived.Test.YticbinfbdcpecaaFwDPrim
namespace Go.D.Tab

/-! strings.IndexByte -/
@[simp] def f40r0 : List ROper := [
  ⟨some 4, .mv (.c (.int .i64 (.ofNat 0))), none⟩]
@[simp] def f40r1 : List ROper := [
  ⟨some 5, .mv (.t 0), none⟩,
  ⟨some 6, .mv (.t 1), none⟩,
  ⟨some 7, .call 61 [(.t 5), (.t 6)], none⟩,
  ⟨some 4, .mv (.t 7), none⟩]
def f40 : RFunc := ⟨[.t 4], (.seq (.region f40r0 [0, 1]) (.seq (.region f40r1 [4]) .ret)), true⟩

/-! strings.Count -/
@[simp] def f44r0 : List ROper := [
  ⟨some 4, .mv (.c (.int .i64 (.ofNat 0))), none⟩]
@[simp] def f44r1 : List ROper := [
  ⟨some 7, .mv (.t 1), none⟩,
  ⟨some 8, .len .str (.t 7), none⟩,
  ⟨some 9, .bin .eql (.t 8) (.c (.int .i64 (.ofNat 0))), none⟩]
@[simp] def f44r2 : List ROper := [
  ⟨some 10, .mv (.t 0), none⟩,
  ⟨some 11, .call 63 [(.t 10)], none⟩,
  ⟨some 12, .bin .add (.t 11) (.c (.int .i64 (.ofNat 1))), none⟩,
  ⟨some 4, .mv (.t 12), none⟩]
@[simp] def f44r3 : List ROper := [
  ⟨some 13, .mv (.t 1), none⟩,
  ⟨some 14, .len .str (.t 13), none⟩,
  ⟨some 15, .bin .eql (.t 14) (.c (.int .i64 (.ofNat 1))), none⟩]
@[simp] def f44r4 : List ROper := [
  ⟨some 16, .mv (.t 0), none⟩,
  ⟨some 17, .mv (.t 1), none⟩,
  ⟨some 18, .index (.t 17) (.c (.int .i64 (.ofNat 0))), none⟩,
  ⟨some 19, .call 64 [(.t 16), (.t 18)], none⟩,
  ⟨some 4, .mv (.t 19), none⟩]
@[simp] def f44r5 : List ROper := [
  ⟨some 5, .mv (.c (.int .i64 (.ofNat 0))), none⟩]
@[simp] def f44r6 : List ROper := [
  ⟨some 20, .mv (.t 0), none⟩,
  ⟨some 21, .mv (.t 1), none⟩,
  ⟨some 22, .call 65 [(.t 20), (.t 21)], none⟩,
  ⟨some 6, .mv (.t 22), none⟩]
@[simp] def f44r7 : List ROper := [
  ⟨some 23, .mv (.t 6), none⟩,
  ⟨some 24, .bin .eql (.t 23) (.c (.int .i64 (.negSucc 0))), none⟩]
@[simp] def f44r8 : List ROper := [
  ⟨some 25, .mv (.t 5), none⟩,
  ⟨some 4, .mv (.t 25), none⟩]
@[simp] def f44r9 : List ROper := [
  ⟨some 26, .mv (.t 5), none⟩,
  ⟨some 27, .bin .add (.t 26) (.c (.int .i64 (.ofNat 1))), none⟩,
  ⟨some 5, .mv (.t 27), none⟩]
@[simp] def f44r10 : List ROper := [
  ⟨some 28, .mv (.t 0), none⟩,
  ⟨some 29, .mv (.t 6), none⟩,
  ⟨some 30, .mv (.t 1), none⟩,
  ⟨some 31, .len .str (.t 30), none⟩,
  ⟨some 32, .bin .add (.t 29) (.t 31), none⟩,
  ⟨some 33, .slice true 1 (.t 28) (some (.t 32)) none none, none⟩,
  ⟨some 0, .mv (.t 33), none⟩]
def f44B0 : RC := (.block 1 (.seq (.region f44r6 [0, 1, 5, 6]) (.seq (.seq (.region f44r7 [0, 1, 5, 6, 24]) (.cond (.t 24) (.seq (.region f44r8 [4]) .ret) .skip)) (.seq (.region f44r9 [0, 1, 5, 6]) (.region f44r10 [0, 1, 5])))))
def f44L0 : RC := .loop [0, 1, 5] f44B0
def f44 : RFunc := ⟨[.t 4], (.seq (.region f44r0 [0, 1]) (.seq (.seq (.region f44r1 [0, 1, 9]) (.cond (.t 9) (.seq (.region f44r2 [4]) .ret) .skip)) (.seq (.seq (.region f44r3 [0, 1, 15]) (.cond (.t 15) (.seq (.region f44r4 [4]) .ret) .skip)) (.seq (.region f44r5 [0, 1, 5]) (.block 0 f44L0))))), true⟩

/-! internal/stringslite.IndexByte -/
@[simp] def f61r0 : List ROper := [
  ⟨some 4, .mv (.c (.int .i64 (.ofNat 0))), none⟩]
@[simp] def f61r1 : List ROper := [
  ⟨some 5, .mv (.t 0), none⟩,
  ⟨some 6, .mv (.t 1), none⟩,
  ⟨some 7, .call 72 [(.t 5), (.t 6)], none⟩,
  ⟨some 4, .mv (.t 7), none⟩]
def f61 : RFunc := ⟨[.t 4], (.seq (.region f61r0 [0, 1]) (.seq (.region f61r1 [4]) .ret)), true⟩

/-! unicode/utf8.RuneCountInString -/
@[simp] def f63r0 : List ROper := [
  ⟨some 2, .mv (.c (.int .i64 (.ofNat 0))), none⟩]
@[simp] def f63r1 : List ROper := [
  ⟨some 3, .mv (.t 0), none⟩,
  ⟨some 4, .fail, none⟩]
@[simp] def f63r2 : List ROper := [
  ⟨some 5, .fail, none⟩,
  ⟨some 6, .extract (.t 5) 0, none⟩]
@[simp] def f63r3 : List ROper := [
  ⟨some 7, .mv (.t 2), none⟩,
  ⟨some 8, .bin .add (.t 7) (.c (.int .i64 (.ofNat 1))), none⟩,
  ⟨some 2, .mv (.t 8), none⟩]
def f63B0 : RC := (.seq (.region f63r2 [2, 6]) (.seq (.cond (.t 6) .skip (.exit 0)) (.block 1 (.region f63r3 [2]))))
def f63L0 : RC := .loop [2] f63B0
@[simp] def f63r4 : List ROper := [
  ⟨some 9, .mv (.t 2), none⟩,
  ⟨some 2, .mv (.t 9), none⟩]
def f63 : RFunc := ⟨[.t 2], (.seq (.region f63r0 [0, 2]) (.seq (.seq (.region f63r1 [2]) (.block 0 f63L0)) (.seq (.region f63r4 [2]) .ret))), true⟩

/-! strings.Index -/
@[simp] def f65r0 : List ROper := [
  ⟨some 4, .mv (.c (.int .i64 (.ofNat 0))), none⟩]
@[simp] def f65r1 : List ROper := [
  ⟨some 5, .mv (.t 0), none⟩,
  ⟨some 6, .mv (.t 1), none⟩,
  ⟨some 7, .call 73 [(.t 5), (.t 6)], none⟩,
  ⟨some 4, .mv (.t 7), none⟩]
def f65 : RFunc := ⟨[.t 4], (.seq (.region f65r0 [0, 1]) (.seq (.region f65r1 [4]) .ret)), true⟩

/-! internal/stringslite.Index -/
@[simp] def f73r0 : List ROper := [
  ⟨some 4, .mv (.c (.int .i64 (.ofNat 0))), none⟩]
@[simp] def f73r1 : List ROper := [
  ⟨some 14, .mv (.t 1), none⟩,
  ⟨some 15, .len .str (.t 14), none⟩,
  ⟨some 5, .mv (.t 15), none⟩]
@[simp] def f73r2 : List ROper := [
  ⟨some 17, .mv (.t 5), none⟩,
  ⟨some 18, .bin .eql (.t 17) (.c (.int .i64 (.ofNat 0))), none⟩,
  ⟨some 19, .mv (.t 18), none⟩,
  ⟨some 20, .mv (.t 1), some (19, false)⟩,
  ⟨some 21, .mv (.t 0), some (19, false)⟩,
  ⟨some 22, .bin .eql (.t 20) (.t 21), some (19, false)⟩,
  ⟨some 23, .pick (.t 19) (.c (.bool true)) (.t 22), none⟩,
  ⟨some 16, .mv (.t 23), none⟩]
@[simp] def f73r3 : List ROper := [
  ⟨some 4, .mv (.c (.int .i64 (.ofNat 0))), none⟩]
@[simp] def f73r4 : List ROper := [
  ⟨some 25, .mv (.t 5), none⟩,
  ⟨some 26, .bin .eql (.t 25) (.c (.int .i64 (.ofNat 1))), none⟩,
  ⟨some 24, .mv (.t 26), none⟩]
@[simp] def f73r5 : List ROper := [
  ⟨some 27, .mv (.t 0), none⟩,
  ⟨some 28, .mv (.t 1), none⟩,
  ⟨some 29, .index (.t 28) (.c (.int .i64 (.ofNat 0))), none⟩,
  ⟨some 30, .call 61 [(.t 27), (.t 29)], none⟩,
  ⟨some 4, .mv (.t 30), none⟩]
@[simp] def f73r6 : List ROper := [
  ⟨some 32, .mv (.t 5), none⟩,
  ⟨some 33, .mv (.t 0), none⟩,
  ⟨some 34, .len .str (.t 33), none⟩,
  ⟨some 35, .bin .geq (.t 32) (.t 34), none⟩,
  ⟨some 31, .mv (.t 35), none⟩]
@[simp] def f73r7 : List ROper := [
  ⟨some 4, .mv (.c (.int .i64 (.negSucc 0))), none⟩]
@[simp] def f73r8 : List ROper := [
  ⟨some 37, .mv (.t 5), none⟩,
  ⟨some 38, .fail, none⟩,
  ⟨some 39, .bin .leq (.t 37) (.t 38), none⟩,
  ⟨some 40, .mv (.t 39), none⟩,
  ⟨some 41, .mv (.t 0), some (40, true)⟩,
  ⟨some 42, .len .str (.t 41), some (40, true)⟩,
  ⟨some 43, .bin .leq (.t 42) (.c (.int .i64 (.ofNat 64))), some (40, true)⟩,
  ⟨some 44, .pick (.t 40) (.t 43) (.c (.bool false)), none⟩,
  ⟨some 36, .mv (.t 44), none⟩]
@[simp] def f73r9 : List ROper := [
  ⟨some 45, .mv (.t 0), none⟩,
  ⟨some 46, .mv (.t 1), none⟩,
  ⟨some 47, .call 75 [(.t 45), (.t 46)], none⟩,
  ⟨some 4, .mv (.t 47), none⟩]
@[simp] def f73r10 : List ROper := [
  ⟨some 48, .mv (.t 1), none⟩,
  ⟨some 49, .index (.t 48) (.c (.int .i64 (.ofNat 0))), none⟩,
  ⟨some 6, .mv (.t 49), none⟩]
@[simp] def f73r11 : List ROper := [
  ⟨some 50, .mv (.t 1), none⟩,
  ⟨some 51, .index (.t 50) (.c (.int .i64 (.ofNat 1))), none⟩,
  ⟨some 7, .mv (.t 51), none⟩]
@[simp] def f73r12 : List ROper := [
  ⟨some 8, .mv (.c (.int .i64 (.ofNat 0))), none⟩]
@[simp] def f73r13 : List ROper := [
  ⟨some 52, .mv (.t 0), none⟩,
  ⟨some 53, .len .str (.t 52), none⟩,
  ⟨some 54, .mv (.t 5), none⟩,
  ⟨some 55, .bin .sub (.t 53) (.t 54), none⟩,
  ⟨some 56, .bin .add (.t 55) (.c (.int .i64 (.ofNat 1))), none⟩,
  ⟨some 9, .mv (.t 56), none⟩]
@[simp] def f73r14 : List ROper := [
  ⟨some 10, .mv (.c (.int .i64 (.ofNat 0))), none⟩]
@[simp] def f73r15 : List ROper := [
  ⟨some 57, .mv (.t 8), none⟩,
  ⟨some 58, .mv (.t 9), none⟩,
  ⟨some 59, .bin .lss (.t 57) (.t 58), none⟩]
@[simp] def f73r16 : List ROper := [
  ⟨some 60, .mv (.t 0), none⟩,
  ⟨some 61, .mv (.t 8), none⟩,
  ⟨some 62, .index (.t 60) (.t 61), none⟩,
  ⟨some 63, .mv (.t 6), none⟩,
  ⟨some 64, .bin .neq (.t 62) (.t 63), none⟩]
@[simp] def f73r17 : List ROper := [
  ⟨some 65, .mv (.t 0), none⟩,
  ⟨some 66, .mv (.t 8), none⟩,
  ⟨some 67, .bin .add (.t 66) (.c (.int .i64 (.ofNat 1))), none⟩,
  ⟨some 68, .mv (.t 9), none⟩,
  ⟨some 69, .slice true 1 (.t 65) (some (.t 67)) (some (.t 68)) none, none⟩,
  ⟨some 70, .mv (.t 6), none⟩,
  ⟨some 71, .call 61 [(.t 69), (.t 70)], none⟩,
  ⟨some 11, .mv (.t 71), none⟩]
@[simp] def f73r18 : List ROper := [
  ⟨some 72, .mv (.t 11), none⟩,
  ⟨some 73, .bin .lss (.t 72) (.c (.int .i64 (.ofNat 0))), none⟩]
@[simp] def f73r19 : List ROper := [
  ⟨some 4, .mv (.c (.int .i64 (.negSucc 0))), none⟩]
@[simp] def f73r20 : List ROper := [
  ⟨some 74, .mv (.t 8), none⟩,
  ⟨some 75, .mv (.t 11), none⟩,
  ⟨some 76, .bin .add (.t 75) (.c (.int .i64 (.ofNat 1))), none⟩,
  ⟨some 77, .bin .add (.t 74) (.t 76), none⟩,
  ⟨some 8, .mv (.t 77), none⟩]
@[simp] def f73r21 : List ROper := [
  ⟨some 78, .mv (.t 0), none⟩,
  ⟨some 79, .mv (.t 8), none⟩,
  ⟨some 80, .bin .add (.t 79) (.c (.int .i64 (.ofNat 1))), none⟩,
  ⟨some 81, .index (.t 78) (.t 80), none⟩,
  ⟨some 82, .mv (.t 7), none⟩,
  ⟨some 83, .bin .eql (.t 81) (.t 82), none⟩,
  ⟨some 84, .mv (.t 83), none⟩,
  ⟨some 85, .mv (.t 0), some (84, true)⟩,
  ⟨some 86, .mv (.t 8), some (84, true)⟩,
  ⟨some 87, .mv (.t 8), some (84, true)⟩,
  ⟨some 88, .mv (.t 5), some (84, true)⟩,
  ⟨some 89, .bin .add (.t 87) (.t 88), some (84, true)⟩,
  ⟨some 90, .slice true 1 (.t 85) (some (.t 86)) (some (.t 89)) none, some (84, true)⟩,
  ⟨some 91, .mv (.t 1), some (84, true)⟩,
  ⟨some 92, .bin .eql (.t 90) (.t 91), some (84, true)⟩,
  ⟨some 93, .pick (.t 84) (.t 92) (.c (.bool false)), none⟩]
@[simp] def f73r22 : List ROper := [
  ⟨some 94, .mv (.t 8), none⟩,
  ⟨some 4, .mv (.t 94), none⟩]
@[simp] def f73r23 : List ROper := [
  ⟨some 95, .mv (.t 8), none⟩,
  ⟨some 96, .bin .add (.t 95) (.c (.int .i64 (.ofNat 1))), none⟩,
  ⟨some 8, .mv (.t 96), none⟩]
@[simp] def f73r24 : List ROper := [
  ⟨some 97, .mv (.t 10), none⟩,
  ⟨some 98, .bin .add (.t 97) (.c (.int .i64 (.ofNat 1))), none⟩,
  ⟨some 10, .mv (.t 98), none⟩]
@[simp] def f73r25 : List ROper := [
  ⟨some 99, .mv (.t 5), none⟩,
  ⟨some 100, .fail, none⟩,
  ⟨some 101, .bin .leq (.t 99) (.t 100), none⟩,
  ⟨some 102, .mv (.t 101), none⟩,
  ⟨some 103, .mv (.t 10), some (102, true)⟩,
  ⟨some 104, .mv (.t 8), some (102, true)⟩,
  ⟨some 105, .call 76 [(.t 104)], some (102, true)⟩,
  ⟨some 106, .bin .gtr (.t 103) (.t 105), some (102, true)⟩,
  ⟨some 107, .pick (.t 102) (.t 106) (.c (.bool false)), none⟩]
@[simp] def f73r26 : List ROper := [
  ⟨some 108, .mv (.t 0), none⟩,
  ⟨some 109, .mv (.t 8), none⟩,
  ⟨some 110, .slice true 1 (.t 108) (some (.t 109)) none none, none⟩,
  ⟨some 111, .mv (.t 1), none⟩,
  ⟨some 112, .call 75 [(.t 110), (.t 111)], none⟩,
  ⟨some 12, .mv (.t 112), none⟩]
@[simp] def f73r27 : List ROper := [
  ⟨some 113, .mv (.t 12), none⟩,
  ⟨some 114, .bin .geq (.t 113) (.c (.int .i64 (.ofNat 0))), none⟩]
@[simp] def f73r28 : List ROper := [
  ⟨some 115, .mv (.t 12), none⟩,
  ⟨some 116, .mv (.t 8), none⟩,
  ⟨some 117, .bin .add (.t 115) (.t 116), none⟩,
  ⟨some 4, .mv (.t 117), none⟩]
@[simp] def f73r29 : List ROper := [
  ⟨some 4, .mv (.c (.int .i64 (.negSucc 0))), none⟩]
@[simp] def f73r30 : List ROper := [
  ⟨some 118, .mv (.t 5), none⟩,
  ⟨some 119, .fail, none⟩,
  ⟨some 120, .bin .gtr (.t 118) (.t 119), none⟩,
  ⟨some 121, .mv (.t 120), none⟩,
  ⟨some 122, .mv (.t 10), some (121, true)⟩,
  ⟨some 123, .mv (.t 8), some (121, true)⟩,
  ⟨some 124, .bin .shr (.t 123) (.c (.int .u64 (.ofNat 4))), some (121, true)⟩,
  ⟨some 125, .bin .add (.c (.int .i64 (.ofNat 4))) (.t 124), some (121, true)⟩,
  ⟨some 126, .bin .geq (.t 122) (.t 125), some (121, true)⟩,
  ⟨some 127, .pick (.t 121) (.t 126) (.c (.bool false)), none⟩,
  ⟨some 128, .mv (.t 127), none⟩,
  ⟨some 129, .mv (.t 8), some (128, true)⟩,
  ⟨some 130, .mv (.t 9), some (128, true)⟩,
  ⟨some 131, .bin .lss (.t 129) (.t 130), some (128, true)⟩,
  ⟨some 132, .pick (.t 128) (.t 131) (.c (.bool false)), none⟩]
@[simp] def f73r31 : List ROper := [
  ⟨some 133, .mv (.t 0), none⟩,
  ⟨some 134, .mv (.t 8), none⟩,
  ⟨some 135, .slice true 1 (.t 133) (some (.t 134)) none none, none⟩,
  ⟨some 136, .mv (.t 1), none⟩,
  ⟨some 137, .call 77 [(.t 135), (.t 136)], none⟩,
  ⟨some 13, .mv (.t 137), none⟩]
@[simp] def f73r32 : List ROper := [
  ⟨some 138, .mv (.t 13), none⟩,
  ⟨some 139, .bin .lss (.t 138) (.c (.int .i64 (.ofNat 0))), none⟩]
@[simp] def f73r33 : List ROper := [
  ⟨some 4, .mv (.c (.int .i64 (.negSucc 0))), none⟩]
@[simp] def f73r34 : List ROper := [
  ⟨some 140, .mv (.t 8), none⟩,
  ⟨some 141, .mv (.t 13), none⟩,
  ⟨some 142, .bin .add (.t 140) (.t 141), none⟩,
  ⟨some 4, .mv (.t 142), none⟩]
def f73B0 : RC := (.seq (.seq (.region f73r15 [0, 1, 5, 6, 7, 8, 9, 10, 59]) (.cond (.t 59) .skip (.exit 1))) (.block 2 (.seq (.seq (.region f73r16 [0, 1, 5, 6, 7, 8, 9, 10, 64]) (.cond (.t 64) (.seq (.region f73r17 [0, 1, 5, 6, 7, 8, 9, 10, 11]) (.seq (.seq (.region f73r18 [0, 1, 5, 6, 7, 8, 9, 10, 11, 73]) (.cond (.t 73) (.seq (.region f73r19 [4]) .ret) .skip)) (.region f73r20 [0, 1, 5, 6, 7, 8, 9, 10]))) .skip)) (.seq (.seq (.region f73r21 [0, 1, 5, 6, 7, 8, 9, 10, 93]) (.cond (.t 93) (.seq (.region f73r22 [4]) .ret) .skip)) (.seq (.region f73r23 [0, 1, 5, 6, 7, 8, 9, 10]) (.seq (.region f73r24 [0, 1, 5, 6, 7, 8, 9, 10]) (.seq (.region f73r25 [0, 1, 5, 6, 7, 8, 9, 10, 107]) (.cond (.t 107) (.seq (.region f73r26 [8, 12]) (.seq (.seq (.region f73r27 [8, 12, 114]) (.cond (.t 114) (.seq (.region f73r28 [4]) .ret) .skip)) (.seq (.region f73r29 [4]) .ret))) (.seq (.region f73r30 [0, 1, 5, 6, 7, 8, 9, 10, 132]) (.cond (.t 132) (.seq (.region f73r31 [8, 13]) (.seq (.seq (.region f73r32 [8, 13, 139]) (.cond (.t 139) (.seq (.region f73r33 [4]) .ret) .skip)) (.seq (.region f73r34 [4]) .ret))) .skip))))))))))
def f73L0 : RC := .loop [0, 1, 5, 6, 7, 8, 9, 10] f73B0
@[simp] def f73r35 : List ROper := [
  ⟨some 4, .mv (.c (.int .i64 (.negSucc 0))), none⟩]
def f73 : RFunc := ⟨[.t 4], (.seq (.region f73r0 [0, 1]) (.seq (.region f73r1 [0, 1, 5]) (.seq (.block 0 (.seq (.region f73r2 [0, 1, 5, 16]) (.cond (.t 16) (.seq (.region f73r3 [4]) .ret) (.seq (.region f73r4 [0, 1, 5, 24]) (.cond (.t 24) (.seq (.region f73r5 [4]) .ret) (.seq (.region f73r6 [0, 1, 5, 31]) (.cond (.t 31) (.seq (.region f73r7 [4]) .ret) (.seq (.region f73r8 [0, 1, 5, 36]) (.cond (.t 36) (.seq (.region f73r9 [4]) .ret) .skip))))))))) (.seq (.region f73r10 [0, 1, 5, 6]) (.seq (.region f73r11 [0, 1, 5, 6, 7]) (.seq (.region f73r12 [0, 1, 5, 6, 7, 8]) (.seq (.region f73r13 [0, 1, 5, 6, 7, 8, 9]) (.seq (.region f73r14 [0, 1, 5, 6, 7, 8, 9, 10]) (.seq (.block 1 f73L0) (.seq (.region f73r35 [4]) .ret)))))))))), true⟩

/-! internal/bytealg.Cutover -/
@[simp] def f76r0 : List ROper := [
  ⟨some 2, .mv (.c (.int .i64 (.ofNat 0))), none⟩]
@[simp] def f76r1 : List ROper := [
  ⟨some 3, .mv (.t 0), none⟩,
  ⟨some 4, .bin .add (.t 3) (.c (.int .i64 (.ofNat 16))), none⟩,
  ⟨some 5, .bin .quo (.t 4) (.c (.int .i64 (.ofNat 8))), none⟩,
  ⟨some 2, .mv (.t 5), none⟩]
def f76 : RFunc := ⟨[.t 2], (.seq (.region f76r0 [0]) (.seq (.region f76r1 [2]) .ret)), true⟩

/-! internal/bytealg.IndexRabinKarp[string] -/
@[simp] def f77r0 : List ROper := [
  ⟨some 4, .mv (.c (.int .i64 (.ofNat 0))), none⟩]
@[simp] def f77r1 : List ROper := [
  ⟨some 12, .mv (.t 1), none⟩,
  ⟨some 13, .call 78 [(.t 12)], none⟩,
  ⟨some 11, .mv (.t 13), none⟩,
  ⟨some 14, .extract (.t 11) 0, none⟩,
  ⟨some 15, .extract (.t 11) 1, none⟩,
  ⟨some 5, .mv (.t 14), none⟩,
  ⟨some 6, .mv (.t 15), none⟩]
@[simp] def f77r2 : List ROper := [
  ⟨some 16, .mv (.t 1), none⟩,
  ⟨some 17, .len .str (.t 16), none⟩,
  ⟨some 7, .mv (.t 17), none⟩]
@[simp] def f77r3 : List ROper := [
  ⟨some 8, .mv (.c (.int .u32 (.ofNat 0))), none⟩]
@[simp] def f77r4 : List ROper := [
  ⟨some 9, .mv (.c (.int .i64 (.ofNat 0))), none⟩]
@[simp] def f77r5 : List ROper := [
  ⟨some 18, .mv (.t 9), none⟩,
  ⟨some 19, .mv (.t 7), none⟩,
  ⟨some 20, .bin .lss (.t 18) (.t 19), none⟩]
@[simp] def f77r6 : List ROper := [
  ⟨some 23, .mv (.t 8), none⟩,
  ⟨some 24, .bin .mul (.t 23) (.c (.int .u32 (.ofNat 16777619))), none⟩,
  ⟨some 25, .mv (.t 0), none⟩,
  ⟨some 26, .mv (.t 9), none⟩,
  ⟨some 27, .index (.t 25) (.t 26), none⟩,
  ⟨some 28, .i2i .u32 (.t 27), none⟩,
  ⟨some 29, .bin .add (.t 24) (.t 28), none⟩,
  ⟨some 8, .mv (.t 29), none⟩]
@[simp] def f77r7 : List ROper := [
  ⟨some 21, .mv (.t 9), none⟩,
  ⟨some 22, .bin .add (.t 21) (.c (.int .i64 (.ofNat 1))), none⟩,
  ⟨some 9, .mv (.t 22), none⟩]
def f77B0 : RC := (.seq (.seq (.region f77r5 [0, 1, 5, 6, 7, 8, 9, 20]) (.cond (.t 20) .skip (.exit 0))) (.seq (.block 1 (.region f77r6 [0, 1, 5, 6, 7, 8, 9])) (.region f77r7 [0, 1, 5, 6, 7, 8, 9])))
def f77L0 : RC := .loop [0, 1, 5, 6, 7, 8, 9] f77B0
@[simp] def f77r8 : List ROper := [
  ⟨some 30, .mv (.t 8), none⟩,
  ⟨some 31, .mv (.t 5), none⟩,
  ⟨some 32, .bin .eql (.t 30) (.t 31), none⟩,
  ⟨some 33, .mv (.t 32), none⟩,
  ⟨some 34, .mv (.t 0), some (33, true)⟩,
  ⟨some 35, .mv (.t 7), some (33, true)⟩,
  ⟨some 36, .slice true 1 (.t 34) none (some (.t 35)) none, some (33, true)⟩,
  ⟨some 37, .mv (.t 1), some (33, true)⟩,
  ⟨some 38, .bin .eql (.t 36) (.t 37), some (33, true)⟩,
  ⟨some 39, .pick (.t 33) (.t 38) (.c (.bool false)), none⟩]
@[simp] def f77r9 : List ROper := [
  ⟨some 4, .mv (.c (.int .i64 (.ofNat 0))), none⟩]
@[simp] def f77r10 : List ROper := [
  ⟨some 40, .mv (.t 7), none⟩,
  ⟨some 10, .mv (.t 40), none⟩]
@[simp] def f77r11 : List ROper := [
  ⟨some 41, .mv (.t 10), none⟩,
  ⟨some 42, .mv (.t 0), none⟩,
  ⟨some 43, .len .str (.t 42), none⟩,
  ⟨some 44, .bin .lss (.t 41) (.t 43), none⟩]
@[simp] def f77r12 : List ROper := [
  ⟨some 45, .mv (.t 8), none⟩,
  ⟨some 46, .bin .mul (.t 45) (.c (.int .u32 (.ofNat 16777619))), none⟩,
  ⟨some 8, .mv (.t 46), none⟩]
@[simp] def f77r13 : List ROper := [
  ⟨some 47, .mv (.t 8), none⟩,
  ⟨some 48, .mv (.t 0), none⟩,
  ⟨some 49, .mv (.t 10), none⟩,
  ⟨some 50, .index (.t 48) (.t 49), none⟩,
  ⟨some 51, .i2i .u32 (.t 50), none⟩,
  ⟨some 52, .bin .add (.t 47) (.t 51), none⟩,
  ⟨some 8, .mv (.t 52), none⟩]
@[simp] def f77r14 : List ROper := [
  ⟨some 53, .mv (.t 8), none⟩,
  ⟨some 54, .mv (.t 6), none⟩,
  ⟨some 55, .mv (.t 0), none⟩,
  ⟨some 56, .mv (.t 10), none⟩,
  ⟨some 57, .mv (.t 7), none⟩,
  ⟨some 58, .bin .sub (.t 56) (.t 57), none⟩,
  ⟨some 59, .index (.t 55) (.t 58), none⟩,
  ⟨some 60, .i2i .u32 (.t 59), none⟩,
  ⟨some 61, .bin .mul (.t 54) (.t 60), none⟩,
  ⟨some 62, .bin .sub (.t 53) (.t 61), none⟩,
  ⟨some 8, .mv (.t 62), none⟩]
@[simp] def f77r15 : List ROper := [
  ⟨some 63, .mv (.t 10), none⟩,
  ⟨some 64, .bin .add (.t 63) (.c (.int .i64 (.ofNat 1))), none⟩,
  ⟨some 10, .mv (.t 64), none⟩]
@[simp] def f77r16 : List ROper := [
  ⟨some 65, .mv (.t 8), none⟩,
  ⟨some 66, .mv (.t 5), none⟩,
  ⟨some 67, .bin .eql (.t 65) (.t 66), none⟩,
  ⟨some 68, .mv (.t 67), none⟩,
  ⟨some 69, .mv (.t 0), some (68, true)⟩,
  ⟨some 70, .mv (.t 10), some (68, true)⟩,
  ⟨some 71, .mv (.t 7), some (68, true)⟩,
  ⟨some 72, .bin .sub (.t 70) (.t 71), some (68, true)⟩,
  ⟨some 73, .mv (.t 10), some (68, true)⟩,
  ⟨some 74, .slice true 1 (.t 69) (some (.t 72)) (some (.t 73)) none, some (68, true)⟩,
  ⟨some 75, .mv (.t 1), some (68, true)⟩,
  ⟨some 76, .bin .eql (.t 74) (.t 75), some (68, true)⟩,
  ⟨some 77, .pick (.t 68) (.t 76) (.c (.bool false)), none⟩]
@[simp] def f77r17 : List ROper := [
  ⟨some 78, .mv (.t 10), none⟩,
  ⟨some 79, .mv (.t 7), none⟩,
  ⟨some 80, .bin .sub (.t 78) (.t 79), none⟩,
  ⟨some 4, .mv (.t 80), none⟩]
def f77B1 : RC := (.seq (.seq (.region f77r11 [0, 1, 5, 6, 7, 8, 10, 44]) (.cond (.t 44) .skip (.exit 2))) (.block 3 (.seq (.region f77r12 [0, 1, 5, 6, 7, 8, 10]) (.seq (.region f77r13 [0, 1, 5, 6, 7, 8, 10]) (.seq (.region f77r14 [0, 1, 5, 6, 7, 8, 10]) (.seq (.region f77r15 [0, 1, 5, 6, 7, 8, 10]) (.seq (.region f77r16 [0, 1, 5, 6, 7, 8, 10, 77]) (.cond (.t 77) (.seq (.region f77r17 [4]) .ret) .skip))))))))
def f77L1 : RC := .loop [0, 1, 5, 6, 7, 8, 10] f77B1
@[simp] def f77r18 : List ROper := [
  ⟨some 4, .mv (.c (.int .i64 (.negSucc 0))), none⟩]
def f77 : RFunc := ⟨[.t 4], (.seq (.region f77r0 [0, 1]) (.seq (.region f77r1 [0, 1, 5, 6]) (.seq (.region f77r2 [0, 1, 5, 6, 7]) (.seq (.region f77r3 [0, 1, 5, 6, 7, 8]) (.seq (.seq (.region f77r4 [0, 1, 5, 6, 7, 8, 9]) (.block 0 f77L0)) (.seq (.seq (.region f77r8 [0, 1, 5, 6, 7, 8, 39]) (.cond (.t 39) (.seq (.region f77r9 [4]) .ret) .skip)) (.seq (.seq (.region f77r10 [0, 1, 5, 6, 7, 8, 10]) (.block 2 f77L1)) (.seq (.region f77r18 [4]) .ret)))))))), true⟩

/-! internal/bytealg.hashStr[string] -/
@[simp] def f78r0 : List ROper := [
  ⟨some 2, .mv (.c (.int .u32 (.ofNat 0))), none⟩,
  ⟨some 3, .mv (.c (.int .u32 (.ofNat 0))), none⟩]
@[simp] def f78r1 : List ROper := [
  ⟨some 4, .mv (.c (.int .u32 (.ofNat 0))), none⟩]
@[simp] def f78r2 : List ROper := [
  ⟨some 5, .mv (.c (.int .i64 (.ofNat 0))), none⟩]
@[simp] def f78r3 : List ROper := [
  ⟨some 9, .mv (.t 5), none⟩,
  ⟨some 10, .mv (.t 0), none⟩,
  ⟨some 11, .len .str (.t 10), none⟩,
  ⟨some 12, .bin .lss (.t 9) (.t 11), none⟩]
@[simp] def f78r4 : List ROper := [
  ⟨some 15, .mv (.t 4), none⟩,
  ⟨some 16, .bin .mul (.t 15) (.c (.int .u32 (.ofNat 16777619))), none⟩,
  ⟨some 17, .mv (.t 0), none⟩,
  ⟨some 18, .mv (.t 5), none⟩,
  ⟨some 19, .index (.t 17) (.t 18), none⟩,
  ⟨some 20, .i2i .u32 (.t 19), none⟩,
  ⟨some 21, .bin .add (.t 16) (.t 20), none⟩,
  ⟨some 4, .mv (.t 21), none⟩]
@[simp] def f78r5 : List ROper := [
  ⟨some 13, .mv (.t 5), none⟩,
  ⟨some 14, .bin .add (.t 13) (.c (.int .i64 (.ofNat 1))), none⟩,
  ⟨some 5, .mv (.t 14), none⟩]
def f78B0 : RC := (.seq (.seq (.region f78r3 [0, 4, 5, 12]) (.cond (.t 12) .skip (.exit 0))) (.seq (.block 1 (.region f78r4 [0, 4, 5])) (.region f78r5 [0, 4, 5])))
def f78L0 : RC := .loop [0, 4, 5] f78B0
@[simp] def f78r6 : List ROper := [
  ⟨some 6, .mv (.c (.int .u32 (.ofNat 1))), none⟩,
  ⟨some 7, .mv (.c (.int .u32 (.ofNat 16777619))), none⟩]
@[simp] def f78r7 : List ROper := [
  ⟨some 22, .mv (.t 0), none⟩,
  ⟨some 23, .len .str (.t 22), none⟩,
  ⟨some 8, .mv (.t 23), none⟩]
@[simp] def f78r8 : List ROper := [
  ⟨some 24, .mv (.t 8), none⟩,
  ⟨some 25, .bin .gtr (.t 24) (.c (.int .i64 (.ofNat 0))), none⟩]
@[simp] def f78r9 : List ROper := [
  ⟨some 28, .mv (.t 8), none⟩,
  ⟨some 29, .bin .and (.t 28) (.c (.int .i64 (.ofNat 1))), none⟩,
  ⟨some 30, .bin .neq (.t 29) (.c (.int .i64 (.ofNat 0))), none⟩]
@[simp] def f78r10 : List ROper := [
  ⟨some 31, .mv (.t 6), none⟩,
  ⟨some 32, .mv (.t 7), none⟩,
  ⟨some 33, .bin .mul (.t 31) (.t 32), none⟩,
  ⟨some 6, .mv (.t 33), none⟩]
@[simp] def f78r11 : List ROper := [
  ⟨some 34, .mv (.t 7), none⟩,
  ⟨some 35, .mv (.t 7), none⟩,
  ⟨some 36, .bin .mul (.t 34) (.t 35), none⟩,
  ⟨some 7, .mv (.t 36), none⟩]
@[simp] def f78r12 : List ROper := [
  ⟨some 26, .mv (.t 8), none⟩,
  ⟨some 27, .bin .shr (.t 26) (.c (.int .u64 (.ofNat 1))), none⟩,
  ⟨some 8, .mv (.t 27), none⟩]
def f78B1 : RC := (.seq (.seq (.region f78r8 [4, 6, 7, 8, 25]) (.cond (.t 25) .skip (.exit 2))) (.seq (.block 3 (.seq (.seq (.region f78r9 [4, 6, 7, 8, 30]) (.cond (.t 30) (.region f78r10 [4, 6, 7, 8]) .skip)) (.region f78r11 [4, 6, 7, 8]))) (.region f78r12 [4, 6, 7, 8])))
def f78L1 : RC := .loop [4, 6, 7, 8] f78B1
@[simp] def f78r13 : List ROper := [
  ⟨some 37, .mv (.t 4), none⟩,
  ⟨some 38, .mv (.t 6), none⟩,
  ⟨some 2, .mv (.t 37), none⟩,
  ⟨some 3, .mv (.t 38), none⟩]
def f78 : RFunc := ⟨[.t 2, .t 3], (.seq (.region f78r0 [0]) (.seq (.region f78r1 [0, 4]) (.seq (.seq (.region f78r2 [0, 4, 5]) (.block 0 f78L0)) (.seq (.region f78r6 [0, 4, 6, 7]) (.seq (.seq (.region f78r7 [4, 6, 7, 8]) (.block 2 f78L1)) (.seq (.region f78r13 [2, 3]) .ret)))))), true⟩

/-! (*strings.Builder).WriteString -/
@[simp] def f463r0 : List ROper := [
  ⟨some 4, .mv (.c (.int .i64 (.ofNat 0))), none⟩,
  ⟨some 5, .mv (.c .niliface), none⟩]
@[simp] def f463r1 : List ROper := [
  ⟨some 6, .mv (.t 0), none⟩,
  ⟨some 7, .call 472 [(.t 6)], none⟩]
@[simp] def f463r2 : List ROper := [
  ⟨some 8, .mv (.t 0), none⟩,
  ⟨some 9, .mv (.t 0), none⟩,
  ⟨some 10, .nilchk (.t 9), none⟩,
  ⟨some 11, .faddr 1 (.t 10), none⟩,
  ⟨some 12, .load 1 false (.t 11), none⟩,
  ⟨some 13, .mv (.t 1), none⟩,
  ⟨some 14, .appendB 5 1 (.t 12) (.t 13), none⟩,
  ⟨some 15, .nilchk (.t 8), none⟩,
  ⟨some 16, .faddr 1 (.t 15), none⟩,
  ⟨none, .store 1 (.t 16) (.t 14), none⟩]
@[simp] def f463r3 : List ROper := [
  ⟨some 17, .mv (.t 1), none⟩,
  ⟨some 18, .len .str (.t 17), none⟩,
  ⟨some 4, .mv (.t 18), none⟩,
  ⟨some 5, .mv (.c .niliface), none⟩]
def f463 : RFunc := ⟨[.t 4, .t 5], (.seq (.region f463r0 [0, 1]) (.seq (.region f463r1 [0, 1]) (.seq (.region f463r2 [1]) (.seq (.region f463r3 [4, 5]) .ret)))), false⟩

/-! (*strings.Builder).String -/
@[simp] def f465r0 : List ROper := [
  ⟨some 2, .mv (.c (.str [])), none⟩]
@[simp] def f465r1 : List ROper := [
  ⟨some 3, .mv (.t 0), none⟩,
  ⟨some 4, .nilchk (.t 3), none⟩,
  ⟨some 5, .faddr 1 (.t 4), none⟩,
  ⟨some 6, .load 1 false (.t 5), none⟩,
  ⟨some 7, .sldata (.t 6), none⟩,
  ⟨some 8, .mv (.t 0), none⟩,
  ⟨some 9, .nilchk (.t 8), none⟩,
  ⟨some 10, .faddr 1 (.t 9), none⟩,
  ⟨some 11, .load 1 false (.t 10), none⟩,
  ⟨some 12, .len .slice (.t 11), none⟩,
  ⟨some 13, .ustr 5 (.t 7) (.t 12), none⟩,
  ⟨some 2, .mv (.t 13), none⟩]
def f465 : RFunc := ⟨[.t 2], (.seq (.region f465r0 [0]) (.seq (.dregion f465r1 [] [] [2]) .ret)), false⟩

/-! (*strings.Builder).copyCheck -/
@[simp] def f472r0 : List ROper := [
  ⟨some 2, .mv (.t 0), none⟩,
  ⟨some 3, .nilchk (.t 2), none⟩,
  ⟨some 4, .faddr 0 (.t 3), none⟩,
  ⟨some 5, .load 1 false (.t 4), none⟩,
  ⟨some 6, .eq .ptr false (.t 5) (.c .nilp), none⟩]
@[simp] def f472r1 : List ROper := [
  ⟨some 7, .mv (.t 0), none⟩,
  ⟨some 8, .mv (.t 0), none⟩,
  ⟨some 9, .conv 56 2 (.t 8), none⟩,
  ⟨some 10, .call 478 [(.t 9)], none⟩,
  ⟨some 11, .conv 56 2 (.t 10), none⟩,
  ⟨some 12, .nilchk (.t 7), none⟩,
  ⟨some 13, .faddr 0 (.t 12), none⟩,
  ⟨none, .store 1 (.t 13) (.t 11), none⟩]
@[simp] def f472r2 : List ROper := [
  ⟨some 14, .mv (.t 0), none⟩,
  ⟨some 15, .nilchk (.t 14), none⟩,
  ⟨some 16, .faddr 0 (.t 15), none⟩,
  ⟨some 17, .load 1 false (.t 16), none⟩,
  ⟨some 18, .mv (.t 0), none⟩,
  ⟨some 19, .eq .ptr true (.t 17) (.t 18), none⟩]
def f472 : RFunc := ⟨[], (.seq (.region f472r0 [0, 6]) (.cond (.t 6) (.region f472r1 []) (.seq (.region f472r2 [19]) (.cond (.t 19) .stuck .skip)))), false⟩

/-! quire/quirelaw01.PieceKnown -/
@[simp] def f576r0 : List ROper := [
  ⟨some 0, .mv (.c (.bool false)), none⟩]
@[simp] def f576r1 : List ROper := [
  ⟨some 11, .call 577 [(.c (.str [97, 100]))], none⟩,
  ⟨some 10, .mv (.t 11), none⟩,
  ⟨some 12, .extract (.t 10) 0, none⟩,
  ⟨some 13, .extract (.t 10) 1, none⟩,
  ⟨some 1, .mv (.t 12), none⟩,
  ⟨some 2, .mv (.t 13), none⟩]
@[simp] def f576r2 : List ROper := [
  ⟨some 14, .mv (.t 1), none⟩,
  ⟨some 15, .eq .ptr false (.t 14) (.c .nilp), none⟩]
@[simp] def f576r3 : List ROper := [
  ⟨some 0, .mv (.c (.bool false)), none⟩]
@[simp] def f576r4 : List ROper := [
  ⟨some 17, .mv (.t 1), none⟩,
  ⟨some 18, .call 578 [(.t 17), (.c (.int .i64 (.ofNat 2))), (.c (.int .i64 (.ofNat 1)))], none⟩,
  ⟨some 16, .mv (.t 18), none⟩,
  ⟨some 19, .extract (.t 16) 0, none⟩,
  ⟨some 20, .extract (.t 16) 1, none⟩,
  ⟨some 3, .mv (.t 19), none⟩,
  ⟨some 4, .mv (.t 20), none⟩]
@[simp] def f576r5 : List ROper := [
  ⟨some 22, .mv (.t 1), none⟩,
  ⟨some 23, .call 579 [(.t 22), (.c (.int .i64 (.ofNat 2)))], none⟩,
  ⟨some 21, .mv (.t 23), none⟩,
  ⟨some 24, .extract (.t 21) 0, none⟩,
  ⟨some 25, .extract (.t 21) 1, none⟩,
  ⟨some 5, .mv (.t 24), none⟩,
  ⟨some 6, .mv (.t 25), none⟩]
@[simp] def f576r6 : List ROper := [
  ⟨some 27, .call 580 [(.c (.str [97])), (.c (.int .i64 (.ofNat 4097)))], none⟩,
  ⟨some 28, .call 577 [(.t 27)], none⟩,
  ⟨some 26, .mv (.t 28), none⟩,
  ⟨some 29, .extract (.t 26) 0, none⟩,
  ⟨some 30, .extract (.t 26) 1, none⟩,
  ⟨some 7, .mv (.t 29), none⟩,
  ⟨some 8, .mv (.t 30), none⟩]
@[simp] def f576r7 : List ROper := [
  ⟨some 31, .mv (.t 1), none⟩,
  ⟨some 32, .call 581 [(.t 31), (.c (.int .i64 (.ofNat 3))), (.c (.str [120]))], none⟩,
  ⟨some 33, .bin .eql (.t 32) (.c (.int .i64 (.ofNat 5))), none⟩,
  ⟨some 34, .mv (.t 33), none⟩,
  ⟨some 35, .mv (.t 1), some (34, true)⟩,
  ⟨some 36, .call 581 [(.t 35), (.c (.int .i64 (.ofNat 0))), (.c (.str [7]))], some (34, true)⟩,
  ⟨some 37, .bin .eql (.t 36) (.c (.int .i64 (.ofNat 4))), some (34, true)⟩,
  ⟨some 38, .pick (.t 34) (.t 37) (.c (.bool false)), none⟩,
  ⟨some 39, .mv (.t 38), none⟩,
  ⟨some 40, .mv (.t 1), some (39, true)⟩,
  ⟨some 41, .call 582 [(.t 40), (.c (.int .i64 (.ofNat 1))), (.c (.int .i64 (.ofNat 2)))], some (39, true)⟩,
  ⟨some 42, .bin .eql (.t 41) (.c (.int .i64 (.ofNat 5))), some (39, true)⟩,
  ⟨some 43, .pick (.t 39) (.t 42) (.c (.bool false)), none⟩,
  ⟨some 44, .mv (.t 43), none⟩,
  ⟨some 45, .mv (.t 4), some (44, true)⟩,
  ⟨some 46, .bin .eql (.t 45) (.c (.int .i64 (.ofNat 5))), some (44, true)⟩,
  ⟨some 47, .pick (.t 44) (.t 46) (.c (.bool false)), none⟩,
  ⟨some 48, .mv (.t 47), none⟩,
  ⟨some 49, .mv (.t 6), some (48, true)⟩,
  ⟨some 50, .bin .eql (.t 49) (.c (.int .i64 (.ofNat 5))), some (48, true)⟩,
  ⟨some 51, .pick (.t 48) (.t 50) (.c (.bool false)), none⟩,
  ⟨some 52, .mv (.t 51), none⟩,
  ⟨some 53, .mv (.t 8), some (52, true)⟩,
  ⟨some 54, .bin .eql (.t 53) (.c (.int .i64 (.ofNat 8))), some (52, true)⟩,
  ⟨some 55, .pick (.t 52) (.t 54) (.c (.bool false)), none⟩,
  ⟨some 9, .mv (.t 55), none⟩]
@[simp] def f576r8 : List ROper := [
  ⟨some 56, .call 583 [], none⟩,
  ⟨some 57, .mv (.t 56), none⟩,
  ⟨some 58, .mv (.t 9), some (57, true)⟩,
  ⟨some 59, .pick (.t 57) (.t 58) (.c (.bool false)), none⟩,
  ⟨some 60, .mv (.t 59), none⟩,
  ⟨some 61, .mv (.t 1), some (60, true)⟩,
  ⟨some 62, .call 584 [(.t 61), (.c (.int .u8 (.ofNat 100))), (.c (.int .i64 (.ofNat 0)))], some (60, true)⟩,
  ⟨some 63, .bin .eql (.t 62) (.c (.int .i64 (.ofNat 1))), some (60, true)⟩,
  ⟨some 64, .pick (.t 60) (.t 63) (.c (.bool false)), none⟩,
  ⟨some 65, .mv (.t 64), none⟩,
  ⟨some 66, .mv (.t 1), some (65, true)⟩,
  ⟨some 67, .call 584 [(.t 66), (.c (.int .u8 (.ofNat 100))), (.c (.int .i64 (.ofNat 2)))], some (65, true)⟩,
  ⟨some 68, .bin .eql (.t 67) (.c (.int .i64 (.negSucc 0))), some (65, true)⟩,
  ⟨some 69, .pick (.t 65) (.t 68) (.c (.bool false)), none⟩,
  ⟨some 70, .mv (.t 69), none⟩,
  ⟨some 71, .mv (.t 1), some (70, true)⟩,
  ⟨some 72, .call 585 [(.t 71), (.c (.int .u8 (.ofNat 97)))], some (70, true)⟩,
  ⟨some 73, .bin .eql (.t 72) (.c (.int .i64 (.ofNat 1))), some (70, true)⟩,
  ⟨some 74, .pick (.t 70) (.t 73) (.c (.bool false)), none⟩,
  ⟨some 75, .mv (.t 74), none⟩,
  ⟨some 76, .call 586 [(.c (.str [97, 31, 1, 10, 9]))], some (75, true)⟩,
  ⟨some 77, .pick (.t 75) (.t 76) (.c (.bool false)), none⟩,
  ⟨some 78, .mv (.t 77), none⟩,
  ⟨some 79, .call 586 [(.c (.str [127]))], some (78, true)⟩,
  ⟨some 80, .un .not (.t 79), some (78, true)⟩,
  ⟨some 81, .pick (.t 78) (.t 80) (.c (.bool false)), none⟩,
  ⟨some 0, .mv (.t 81), none⟩]
def f576 : RFunc := ⟨[.t 0], (.seq (.region f576r0 []) (.seq (.region f576r1 [1]) (.seq (.seq (.region f576r2 [1, 15]) (.cond (.t 15) (.seq (.region f576r3 [0]) .ret) .skip)) (.seq (.region f576r4 [1, 4]) (.seq (.region f576r5 [1, 4, 6]) (.seq (.region f576r6 [1, 4, 6, 8]) (.seq (.region f576r7 [1, 9]) (.seq (.region f576r8 [0]) .ret)))))))), true⟩

/-! quire/piece.New -/
@[simp] def f577r0 : List ROper := [
  ⟨some 2, .mv (.c .nilp), none⟩,
  ⟨some 3, .mv (.c (.int .i64 (.ofNat 0))), none⟩]
@[simp] def f577r1 : List ROper := [
  ⟨some 6, .mv (.t 0), none⟩,
  ⟨some 7, .call 586 [(.t 6)], none⟩,
  ⟨some 8, .un .not (.t 7), none⟩,
  ⟨some 5, .mv (.t 8), none⟩]
@[simp] def f577r2 : List ROper := [
  ⟨some 2, .mv (.c .nilp), none⟩,
  ⟨some 3, .mv (.c (.int .i64 (.ofNat 4))), none⟩]
@[simp] def f577r3 : List ROper := [
  ⟨some 10, .mv (.t 0), none⟩,
  ⟨some 11, .len .str (.t 10), none⟩,
  ⟨some 12, .bin .gtr (.t 11) (.c (.int .i64 (.ofNat 4096))), none⟩,
  ⟨some 9, .mv (.t 12), none⟩]
@[simp] def f577r4 : List ROper := [
  ⟨some 2, .mv (.c .nilp), none⟩,
  ⟨some 3, .mv (.c (.int .i64 (.ofNat 8))), none⟩]
@[simp] def f577r5 : List ROper := [
  ⟨some 13, .mv (.t 0), none⟩,
  ⟨some 14, .len .str (.t 13), none⟩,
  ⟨some 15, .build [(.bool false), (.list 0 0 .no false []), (.int .i64 (.ofNat 0))] [(0, 1, (.c (.bool true))), (2, 1, (.t 14))], none⟩,
  ⟨some 16, .box 3 (.t 15), none⟩,
  ⟨some 4, .mv (.t 16), none⟩]
@[simp] def f577r6 : List ROper := [
  ⟨some 17, .mv (.t 0), none⟩,
  ⟨some 18, .bin .neq (.t 17) (.c (.str [])), none⟩]
@[simp] def f577r7 : List ROper := [
  ⟨some 19, .mv (.t 4), none⟩,
  ⟨some 20, .mv (.t 0), none⟩,
  ⟨some 21, .build [(.str [])] [(0, 1, (.t 20))], none⟩,
  ⟨some 22, .lit 1 true [(.str [])] 1 [(0, (.t 21))], none⟩,
  ⟨some 23, .nilchk (.t 19), none⟩,
  ⟨some 24, .faddr 1 (.t 23), none⟩,
  ⟨none, .store 1 (.t 24) (.t 22), none⟩]
@[simp] def f577r8 : List ROper := [
  ⟨some 25, .mv (.t 4), none⟩,
  ⟨some 2, .mv (.t 25), none⟩,
  ⟨some 3, .mv (.c (.int .i64 (.ofNat 0))), none⟩]
def f577 : RFunc := ⟨[.t 2, .t 3], (.seq (.region f577r0 [0]) (.seq (.block 0 (.seq (.region f577r1 [0, 5]) (.cond (.t 5) (.seq (.region f577r2 [2, 3]) .ret) (.seq (.region f577r3 [0, 9]) (.cond (.t 9) (.seq (.region f577r4 [2, 3]) .ret) .skip))))) (.seq (.region f577r5 [0, 4]) (.seq (.seq (.region f577r6 [0, 4, 18]) (.cond (.t 18) (.region f577r7 [4]) .skip)) (.seq (.region f577r8 [2, 3]) .ret))))), false⟩

/-! (*quire/piece.Text).Slice -/
@[simp] def f578r0 : List ROper := [
  ⟨some 4, .box 1 (.t 1), none⟩,
  ⟨some 5, .box 1 (.t 2), none⟩,
  ⟨some 6, .mv (.c (.str [])), none⟩,
  ⟨some 7, .mv (.c (.int .i64 (.ofNat 0))), none⟩]
@[simp] def f578r1 : List ROper := [
  ⟨some 14, .mv (.t 0), none⟩,
  ⟨some 15, .call 587 [(.t 14)], none⟩,
  ⟨some 13, .mv (.t 15), none⟩]
@[simp] def f578r2 : List ROper := [
  ⟨some 6, .mv (.c (.str [])), none⟩,
  ⟨some 7, .mv (.c (.int .i64 (.ofNat 1))), none⟩]
@[simp] def f578r3 : List ROper := [
  ⟨some 17, .load 1 false (.t 4), none⟩,
  ⟨some 18, .bin .lss (.t 17) (.c (.int .i64 (.ofNat 0))), none⟩,
  ⟨some 19, .mv (.t 18), none⟩,
  ⟨some 20, .load 1 false (.t 5), some (19, false)⟩,
  ⟨some 21, .load 1 false (.t 4), some (19, false)⟩,
  ⟨some 22, .bin .lss (.t 20) (.t 21), some (19, false)⟩,
  ⟨some 23, .pick (.t 19) (.c (.bool true)) (.t 22), none⟩,
  ⟨some 24, .mv (.t 23), none⟩,
  ⟨some 25, .load 1 false (.t 5), some (24, false)⟩,
  ⟨some 26, .mv (.t 0), some (24, false)⟩,
  ⟨some 27, .nilchk (.t 26), some (24, false)⟩,
  ⟨some 28, .faddr 2 (.t 27), some (24, false)⟩,
  ⟨some 29, .load 1 false (.t 28), some (24, false)⟩,
  ⟨some 30, .bin .gtr (.t 25) (.t 29), some (24, false)⟩,
  ⟨some 31, .pick (.t 24) (.c (.bool true)) (.t 30), none⟩,
  ⟨some 16, .mv (.t 31), none⟩]
@[simp] def f578r4 : List ROper := [
  ⟨some 6, .mv (.c (.str [])), none⟩,
  ⟨some 7, .mv (.c (.int .i64 (.ofNat 5))), none⟩]
@[simp] def f578r5 : List ROper := [
  ⟨some 8, .allocT 56 [.nilp, (.list 0 0 .no false [])], none⟩]
@[simp] def f578r6 : List ROper := [
  ⟨some 32, .mv (.t 0), none⟩,
  ⟨some 33, .mkfn 588 [(.t 32)] [], none⟩]
@[simp] def f578r7 : List ROper := [
  ⟨some 9, .mv (.t 34), none⟩]
@[simp] def f578r8 : List ROper := [
  ⟨some 10, .alloc [(.str [])], none⟩,
  ⟨none, .store 1 (.t 10) (.t 35), none⟩]
@[simp] def f578r9 : List ROper := [
  ⟨some 36, .mv (.t 9), none⟩,
  ⟨some 37, .load 1 false (.t 5), none⟩,
  ⟨some 38, .bin .geq (.t 36) (.t 37), none⟩]
@[simp] def f578r10 : List ROper := [
  ⟨some 39, .load 1 false (.t 4), none⟩,
  ⟨some 40, .mv (.t 9), none⟩,
  ⟨some 41, .bin .sub (.t 39) (.t 40), none⟩,
  ⟨some 42, .max [(.t 41), (.c (.int .i64 (.ofNat 0)))], none⟩,
  ⟨some 43, .load 1 false (.t 5), none⟩,
  ⟨some 44, .mv (.t 9), none⟩,
  ⟨some 45, .bin .sub (.t 43) (.t 44), none⟩,
  ⟨some 46, .faddr 0 (.t 10), none⟩,
  ⟨some 47, .load 1 false (.t 46), none⟩,
  ⟨some 48, .len .str (.t 47), none⟩,
  ⟨some 49, .min [(.t 45), (.t 48)], none⟩,
  ⟨some 11, .mv (.t 42), none⟩,
  ⟨some 12, .mv (.t 49), none⟩]
@[simp] def f578r11 : List ROper := [
  ⟨some 50, .mv (.t 11), none⟩,
  ⟨some 51, .mv (.t 12), none⟩,
  ⟨some 52, .bin .lss (.t 50) (.t 51), none⟩]
@[simp] def f578r12 : List ROper := [
  ⟨some 53, .faddr 0 (.t 10), none⟩,
  ⟨some 54, .load 1 false (.t 53), none⟩,
  ⟨some 55, .mv (.t 11), none⟩,
  ⟨some 56, .mv (.t 12), none⟩,
  ⟨some 57, .slice true 1 (.t 54) (some (.t 55)) (some (.t 56)) none, none⟩,
  ⟨some 58, .call 463 [(.t 8), (.t 57)], none⟩]
@[simp] def f578r13 : List ROper := [
  ⟨some 59, .call 465 [(.t 8)], none⟩,
  ⟨some 6, .mv (.t 59), none⟩,
  ⟨some 7, .mv (.c (.int .i64 (.ofNat 0))), none⟩]
def f578 : RFunc := ⟨[.t 6, .t 7], (.seq (.region f578r0 [0, 4, 5]) (.seq (.block 0 (.seq (.region f578r1 [0, 4, 5, 13]) (.cond (.t 13) (.seq (.region f578r2 [6, 7]) .ret) (.seq (.dregion f578r3 [] [] [0, 4, 5, 16]) (.cond (.t 16) (.seq (.region f578r4 [6, 7]) .ret) .skip))))) (.seq (.region f578r5 [0, 4, 5, 8]) (.seq (.seq (.region f578r6 [4, 5, 8, 33]) (.block 1 (.rfunc (.t 33) [34, 35] (.seq (.region f578r7 [4, 5, 8, 9, 35]) (.region f578r8 [4, 5, 8, 9, 10])) (.block 2 (.seq (.seq (.region f578r9 [4, 5, 8, 9, 10, 38]) (.cond (.t 38) (.exit 1) .skip)) (.seq (.dregion f578r10 [] [] [8, 10, 11, 12]) (.seq (.region f578r11 [8, 10, 11, 12, 52]) (.cond (.t 52) (.region f578r12 []) .skip))))) [4, 5, 8, 33]))) (.seq (.region f578r13 [6, 7]) .ret))))), false⟩

/-! (*quire/piece.Text).Byte -/
@[simp] def f579r0 : List ROper := [
  ⟨some 4, .mv (.c (.int .u8 (.ofNat 0))), none⟩,
  ⟨some 5, .mv (.c (.int .i64 (.ofNat 0))), none⟩]
@[simp] def f579r1 : List ROper := [
  ⟨some 9, .mv (.t 0), none⟩,
  ⟨some 10, .call 587 [(.t 9)], none⟩,
  ⟨some 8, .mv (.t 10), none⟩]
@[simp] def f579r2 : List ROper := [
  ⟨some 4, .mv (.c (.int .u8 (.ofNat 0))), none⟩,
  ⟨some 5, .mv (.c (.int .i64 (.ofNat 1))), none⟩]
@[simp] def f579r3 : List ROper := [
  ⟨some 12, .mv (.t 1), none⟩,
  ⟨some 13, .bin .lss (.t 12) (.c (.int .i64 (.ofNat 0))), none⟩,
  ⟨some 14, .mv (.t 13), none⟩,
  ⟨some 15, .mv (.t 1), some (14, false)⟩,
  ⟨some 16, .mv (.t 0), some (14, false)⟩,
  ⟨some 17, .nilchk (.t 16), some (14, false)⟩,
  ⟨some 18, .faddr 2 (.t 17), some (14, false)⟩,
  ⟨some 19, .load 1 false (.t 18), some (14, false)⟩,
  ⟨some 20, .bin .geq (.t 15) (.t 19), some (14, false)⟩,
  ⟨some 21, .pick (.t 14) (.c (.bool true)) (.t 20), none⟩,
  ⟨some 11, .mv (.t 21), none⟩]
@[simp] def f579r4 : List ROper := [
  ⟨some 4, .mv (.c (.int .u8 (.ofNat 0))), none⟩,
  ⟨some 5, .mv (.c (.int .i64 (.ofNat 5))), none⟩]
@[simp] def f579r5 : List ROper := [
  ⟨some 23, .mv (.t 0), none⟩,
  ⟨some 24, .mv (.t 1), none⟩,
  ⟨some 25, .mv (.t 1), none⟩,
  ⟨some 26, .bin .add (.t 25) (.c (.int .i64 (.ofNat 1))), none⟩,
  ⟨some 27, .call 578 [(.t 23), (.t 24), (.t 26)], none⟩,
  ⟨some 22, .mv (.t 27), none⟩,
  ⟨some 28, .extract (.t 22) 0, none⟩,
  ⟨some 29, .extract (.t 22) 1, none⟩,
  ⟨some 6, .mv (.t 28), none⟩,
  ⟨some 7, .mv (.t 29), none⟩]
@[simp] def f579r6 : List ROper := [
  ⟨some 30, .mv (.t 6), none⟩,
  ⟨some 31, .index (.t 30) (.c (.int .i64 (.ofNat 0))), none⟩,
  ⟨some 4, .mv (.t 31), none⟩,
  ⟨some 5, .mv (.c (.int .i64 (.ofNat 0))), none⟩]
def f579 : RFunc := ⟨[.t 4, .t 5], (.seq (.region f579r0 [0, 1]) (.seq (.block 0 (.seq (.region f579r1 [0, 1, 8]) (.cond (.t 8) (.seq (.region f579r2 [4, 5]) .ret) (.seq (.region f579r3 [0, 1, 11]) (.cond (.t 11) (.seq (.region f579r4 [4, 5]) .ret) .skip))))) (.seq (.region f579r5 [6]) (.seq (.region f579r6 [4, 5]) .ret)))), false⟩

/-! strings.Repeat -/
@[simp] def f580r0 : List ROper := [
  ⟨some 4, .mv (.c (.str [])), none⟩]
@[simp] def f580r1 : List ROper := [
  ⟨some 11, .mv (.t 1), none⟩]
@[simp] def f580r2 : List ROper := [
  ⟨some 13, .bin .eql (.t 11) (.c (.int .i64 (.ofNat 0))), none⟩,
  ⟨some 12, .mv (.t 13), none⟩]
@[simp] def f580r3 : List ROper := [
  ⟨some 4, .mv (.c (.str [])), none⟩]
@[simp] def f580r4 : List ROper := [
  ⟨some 15, .bin .eql (.t 11) (.c (.int .i64 (.ofNat 1))), none⟩,
  ⟨some 14, .mv (.t 15), none⟩]
@[simp] def f580r5 : List ROper := [
  ⟨some 16, .mv (.t 0), none⟩,
  ⟨some 4, .mv (.t 16), none⟩]
@[simp] def f580r6 : List ROper := [
  ⟨some 17, .mv (.t 1), none⟩,
  ⟨some 18, .bin .lss (.t 17) (.c (.int .i64 (.ofNat 0))), none⟩]
@[simp] def f580r7 : List ROper := [
  ⟨some 19, .iface 9 (.c (.str [115, 116, 114, 105, 110, 103, 115, 58, 32, 110, 101, 103, 97, 116, 105, 118, 101, 32, 82, 101, 112, 101, 97, 116, 32, 99, 111, 117, 110, 116])), none⟩,
  ⟨none, .fail, none⟩]
@[simp] def f580r8 : List ROper := [
  ⟨some 21, .mv (.t 0), none⟩,
  ⟨some 22, .len .str (.t 21), none⟩,
  ⟨some 23, .i2i .u64 (.t 22), none⟩,
  ⟨some 24, .mv (.t 1), none⟩,
  ⟨some 25, .i2i .u64 (.t 24), none⟩,
  ⟨some 26, .call 589 [(.t 23), (.t 25)], none⟩,
  ⟨some 20, .mv (.t 26), none⟩,
  ⟨some 27, .extract (.t 20) 0, none⟩,
  ⟨some 28, .extract (.t 20) 1, none⟩,
  ⟨some 5, .mv (.t 27), none⟩,
  ⟨some 6, .mv (.t 28), none⟩]
@[simp] def f580r9 : List ROper := [
  ⟨some 29, .mv (.t 5), none⟩,
  ⟨some 30, .bin .gtr (.t 29) (.c (.int .u64 (.ofNat 0))), none⟩,
  ⟨some 31, .mv (.t 30), none⟩,
  ⟨some 32, .mv (.t 6), some (31, false)⟩,
  ⟨some 33, .bin .gtr (.t 32) (.c (.int .u64 (.ofNat 9223372036854775807))), some (31, false)⟩,
  ⟨some 34, .pick (.t 31) (.c (.bool true)) (.t 33), none⟩]
@[simp] def f580r10 : List ROper := [
  ⟨some 35, .iface 9 (.c (.str [115, 116, 114, 105, 110, 103, 115, 58, 32, 82, 101, 112, 101, 97, 116, 32, 111, 117, 116, 112, 117, 116, 32, 108, 101, 110, 103, 116, 104, 32, 111, 118, 101, 114, 102, 108, 111, 119])), none⟩,
  ⟨none, .fail, none⟩]
@[simp] def f580r11 : List ROper := [
  ⟨some 36, .mv (.t 6), none⟩,
  ⟨some 37, .i2i .i64 (.t 36), none⟩,
  ⟨some 7, .mv (.t 37), none⟩]
@[simp] def f580r12 : List ROper := [
  ⟨some 38, .mv (.t 0), none⟩,
  ⟨some 39, .len .str (.t 38), none⟩,
  ⟨some 40, .bin .eql (.t 39) (.c (.int .i64 (.ofNat 0))), none⟩]
@[simp] def f580r13 : List ROper := [
  ⟨some 4, .mv (.c (.str [])), none⟩]
@[simp] def f580r14 : List ROper := [
  ⟨some 41, .mv (.t 0), none⟩,
  ⟨some 42, .index (.t 41) (.c (.int .i64 (.ofNat 0))), none⟩]
@[simp] def f580r15 : List ROper := [
  ⟨some 44, .bin .eql (.t 42) (.c (.int .u8 (.ofNat 32))), none⟩,
  ⟨some 43, .mv (.t 44), none⟩]
@[simp] def f580r16 : List ROper := [
  ⟨some 45, .bin .eql (.t 42) (.c (.int .u8 (.ofNat 45))), none⟩,
  ⟨some 43, .mv (.t 45), none⟩]
@[simp] def f580r17 : List ROper := [
  ⟨some 46, .bin .eql (.t 42) (.c (.int .u8 (.ofNat 48))), none⟩,
  ⟨some 43, .mv (.t 46), none⟩]
@[simp] def f580r18 : List ROper := [
  ⟨some 47, .bin .eql (.t 42) (.c (.int .u8 (.ofNat 61))), none⟩,
  ⟨some 43, .mv (.t 47), none⟩]
@[simp] def f580r19 : List ROper := [
  ⟨some 48, .bin .eql (.t 42) (.c (.int .u8 (.ofNat 9))), none⟩,
  ⟨some 43, .mv (.t 48), none⟩]
@[simp] def f580r20 : List ROper := [
  ⟨some 50, .mv (.t 7), none⟩,
  ⟨some 51, .bin .leq (.t 50) (.c (.int .i64 (.ofNat 128))), none⟩,
  ⟨some 52, .mv (.t 51), none⟩,
  ⟨some 53, .mv (.t 0), some (52, true)⟩,
  ⟨some 54, .call 590 [(.c (.str [32, 32, 32, 32, 32, 32, 32, 32, 32, 32, 32, 32, 32, 32, 32, 32, 32, 32, 32, 32, 32, 32, 32, 32, 32, 32, 32, 32, 32, 32, 32, 32, 32, 32, 32, 32, 32, 32, 32, 32, 32, 32, 32, 32, 32, 32, 32, 32, 32, 32, 32, 32, 32, 32, 32, 32, 32, 32, 32, 32, 32, 32, 32, 32, 32, 32, 32, 32, 32, 32, 32, 32, 32, 32, 32, 32, 32, 32, 32, 32, 32, 32, 32, 32, 32, 32, 32, 32, 32, 32, 32, 32, 32, 32, 32, 32, 32, 32, 32, 32, 32, 32, 32, 32, 32, 32, 32, 32, 32, 32, 32, 32, 32, 32, 32, 32, 32, 32, 32, 32, 32, 32, 32, 32, 32, 32, 32, 32])), (.t 53)], some (52, true)⟩,
  ⟨some 55, .pick (.t 52) (.t 54) (.c (.bool false)), none⟩,
  ⟨some 49, .mv (.t 55), none⟩]
@[simp] def f580r21 : List ROper := [
  ⟨some 56, .mv (.t 7), none⟩,
  ⟨some 57, .slice true 1 (.c (.str [32, 32, 32, 32, 32, 32, 32, 32, 32, 32, 32, 32, 32, 32, 32, 32, 32, 32, 32, 32, 32, 32, 32, 32, 32, 32, 32, 32, 32, 32, 32, 32, 32, 32, 32, 32, 32, 32, 32, 32, 32, 32, 32, 32, 32, 32, 32, 32, 32, 32, 32, 32, 32, 32, 32, 32, 32, 32, 32, 32, 32, 32, 32, 32, 32, 32, 32, 32, 32, 32, 32, 32, 32, 32, 32, 32, 32, 32, 32, 32, 32, 32, 32, 32, 32, 32, 32, 32, 32, 32, 32, 32, 32, 32, 32, 32, 32, 32, 32, 32, 32, 32, 32, 32, 32, 32, 32, 32, 32, 32, 32, 32, 32, 32, 32, 32, 32, 32, 32, 32, 32, 32, 32, 32, 32, 32, 32, 32])) none (some (.t 56)) none, none⟩,
  ⟨some 4, .mv (.t 57), none⟩]
@[simp] def f580r22 : List ROper := [
  ⟨some 59, .mv (.t 7), none⟩,
  ⟨some 60, .bin .leq (.t 59) (.c (.int .i64 (.ofNat 128))), none⟩,
  ⟨some 61, .mv (.t 60), none⟩,
  ⟨some 62, .mv (.t 0), some (61, true)⟩,
  ⟨some 63, .call 590 [(.c (.str [45, 45, 45, 45, 45, 45, 45, 45, 45, 45, 45, 45, 45, 45, 45, 45, 45, 45, 45, 45, 45, 45, 45, 45, 45, 45, 45, 45, 45, 45, 45, 45, 45, 45, 45, 45, 45, 45, 45, 45, 45, 45, 45, 45, 45, 45, 45, 45, 45, 45, 45, 45, 45, 45, 45, 45, 45, 45, 45, 45, 45, 45, 45, 45, 45, 45, 45, 45, 45, 45, 45, 45, 45, 45, 45, 45, 45, 45, 45, 45, 45, 45, 45, 45, 45, 45, 45, 45, 45, 45, 45, 45, 45, 45, 45, 45, 45, 45, 45, 45, 45, 45, 45, 45, 45, 45, 45, 45, 45, 45, 45, 45, 45, 45, 45, 45, 45, 45, 45, 45, 45, 45, 45, 45, 45, 45, 45, 45])), (.t 62)], some (61, true)⟩,
  ⟨some 64, .pick (.t 61) (.t 63) (.c (.bool false)), none⟩,
  ⟨some 58, .mv (.t 64), none⟩]
@[simp] def f580r23 : List ROper := [
  ⟨some 65, .mv (.t 7), none⟩,
  ⟨some 66, .slice true 1 (.c (.str [45, 45, 45, 45, 45, 45, 45, 45, 45, 45, 45, 45, 45, 45, 45, 45, 45, 45, 45, 45, 45, 45, 45, 45, 45, 45, 45, 45, 45, 45, 45, 45, 45, 45, 45, 45, 45, 45, 45, 45, 45, 45, 45, 45, 45, 45, 45, 45, 45, 45, 45, 45, 45, 45, 45, 45, 45, 45, 45, 45, 45, 45, 45, 45, 45, 45, 45, 45, 45, 45, 45, 45, 45, 45, 45, 45, 45, 45, 45, 45, 45, 45, 45, 45, 45, 45, 45, 45, 45, 45, 45, 45, 45, 45, 45, 45, 45, 45, 45, 45, 45, 45, 45, 45, 45, 45, 45, 45, 45, 45, 45, 45, 45, 45, 45, 45, 45, 45, 45, 45, 45, 45, 45, 45, 45, 45, 45, 45])) none (some (.t 65)) none, none⟩,
  ⟨some 4, .mv (.t 66), none⟩]
@[simp] def f580r24 : List ROper := [
  ⟨some 68, .mv (.t 7), none⟩,
  ⟨some 69, .bin .leq (.t 68) (.c (.int .i64 (.ofNat 64))), none⟩,
  ⟨some 70, .mv (.t 69), none⟩,
  ⟨some 71, .mv (.t 0), some (70, true)⟩,
  ⟨some 72, .call 590 [(.c (.str [48, 48, 48, 48, 48, 48, 48, 48, 48, 48, 48, 48, 48, 48, 48, 48, 48, 48, 48, 48, 48, 48, 48, 48, 48, 48, 48, 48, 48, 48, 48, 48, 48, 48, 48, 48, 48, 48, 48, 48, 48, 48, 48, 48, 48, 48, 48, 48, 48, 48, 48, 48, 48, 48, 48, 48, 48, 48, 48, 48, 48, 48, 48, 48])), (.t 71)], some (70, true)⟩,
  ⟨some 73, .pick (.t 70) (.t 72) (.c (.bool false)), none⟩,
  ⟨some 67, .mv (.t 73), none⟩]
@[simp] def f580r25 : List ROper := [
  ⟨some 74, .mv (.t 7), none⟩,
  ⟨some 75, .slice true 1 (.c (.str [48, 48, 48, 48, 48, 48, 48, 48, 48, 48, 48, 48, 48, 48, 48, 48, 48, 48, 48, 48, 48, 48, 48, 48, 48, 48, 48, 48, 48, 48, 48, 48, 48, 48, 48, 48, 48, 48, 48, 48, 48, 48, 48, 48, 48, 48, 48, 48, 48, 48, 48, 48, 48, 48, 48, 48, 48, 48, 48, 48, 48, 48, 48, 48])) none (some (.t 74)) none, none⟩,
  ⟨some 4, .mv (.t 75), none⟩]
@[simp] def f580r26 : List ROper := [
  ⟨some 77, .mv (.t 7), none⟩,
  ⟨some 78, .bin .leq (.t 77) (.c (.int .i64 (.ofNat 128))), none⟩,
  ⟨some 79, .mv (.t 78), none⟩,
  ⟨some 80, .mv (.t 0), some (79, true)⟩,
  ⟨some 81, .call 590 [(.c (.str [61, 61, 61, 61, 61, 61, 61, 61, 61, 61, 61, 61, 61, 61, 61, 61, 61, 61, 61, 61, 61, 61, 61, 61, 61, 61, 61, 61, 61, 61, 61, 61, 61, 61, 61, 61, 61, 61, 61, 61, 61, 61, 61, 61, 61, 61, 61, 61, 61, 61, 61, 61, 61, 61, 61, 61, 61, 61, 61, 61, 61, 61, 61, 61, 61, 61, 61, 61, 61, 61, 61, 61, 61, 61, 61, 61, 61, 61, 61, 61, 61, 61, 61, 61, 61, 61, 61, 61, 61, 61, 61, 61, 61, 61, 61, 61, 61, 61, 61, 61, 61, 61, 61, 61, 61, 61, 61, 61, 61, 61, 61, 61, 61, 61, 61, 61, 61, 61, 61, 61, 61, 61, 61, 61, 61, 61, 61, 61])), (.t 80)], some (79, true)⟩,
  ⟨some 82, .pick (.t 79) (.t 81) (.c (.bool false)), none⟩,
  ⟨some 76, .mv (.t 82), none⟩]
@[simp] def f580r27 : List ROper := [
  ⟨some 83, .mv (.t 7), none⟩,
  ⟨some 84, .slice true 1 (.c (.str [61, 61, 61, 61, 61, 61, 61, 61, 61, 61, 61, 61, 61, 61, 61, 61, 61, 61, 61, 61, 61, 61, 61, 61, 61, 61, 61, 61, 61, 61, 61, 61, 61, 61, 61, 61, 61, 61, 61, 61, 61, 61, 61, 61, 61, 61, 61, 61, 61, 61, 61, 61, 61, 61, 61, 61, 61, 61, 61, 61, 61, 61, 61, 61, 61, 61, 61, 61, 61, 61, 61, 61, 61, 61, 61, 61, 61, 61, 61, 61, 61, 61, 61, 61, 61, 61, 61, 61, 61, 61, 61, 61, 61, 61, 61, 61, 61, 61, 61, 61, 61, 61, 61, 61, 61, 61, 61, 61, 61, 61, 61, 61, 61, 61, 61, 61, 61, 61, 61, 61, 61, 61, 61, 61, 61, 61, 61, 61])) none (some (.t 83)) none, none⟩,
  ⟨some 4, .mv (.t 84), none⟩]
@[simp] def f580r28 : List ROper := [
  ⟨some 86, .mv (.t 7), none⟩,
  ⟨some 87, .bin .leq (.t 86) (.c (.int .i64 (.ofNat 64))), none⟩,
  ⟨some 88, .mv (.t 87), none⟩,
  ⟨some 89, .mv (.t 0), some (88, true)⟩,
  ⟨some 90, .call 590 [(.c (.str [9, 9, 9, 9, 9, 9, 9, 9, 9, 9, 9, 9, 9, 9, 9, 9, 9, 9, 9, 9, 9, 9, 9, 9, 9, 9, 9, 9, 9, 9, 9, 9, 9, 9, 9, 9, 9, 9, 9, 9, 9, 9, 9, 9, 9, 9, 9, 9, 9, 9, 9, 9, 9, 9, 9, 9, 9, 9, 9, 9, 9, 9, 9, 9])), (.t 89)], some (88, true)⟩,
  ⟨some 91, .pick (.t 88) (.t 90) (.c (.bool false)), none⟩,
  ⟨some 85, .mv (.t 91), none⟩]
@[simp] def f580r29 : List ROper := [
  ⟨some 92, .mv (.t 7), none⟩,
  ⟨some 93, .slice true 1 (.c (.str [9, 9, 9, 9, 9, 9, 9, 9, 9, 9, 9, 9, 9, 9, 9, 9, 9, 9, 9, 9, 9, 9, 9, 9, 9, 9, 9, 9, 9, 9, 9, 9, 9, 9, 9, 9, 9, 9, 9, 9, 9, 9, 9, 9, 9, 9, 9, 9, 9, 9, 9, 9, 9, 9, 9, 9, 9, 9, 9, 9, 9, 9, 9, 9])) none (some (.t 92)) none, none⟩,
  ⟨some 4, .mv (.t 93), none⟩]
@[simp] def f580r30 : List ROper := [
  ⟨some 94, .mv (.t 7), none⟩,
  ⟨some 8, .mv (.t 94), none⟩]
@[simp] def f580r31 : List ROper := [
  ⟨some 95, .mv (.t 7), none⟩,
  ⟨some 96, .bin .gtr (.t 95) (.c (.int .i64 (.ofNat 8192))), none⟩]
@[simp] def f580r32 : List ROper := [
  ⟨some 97, .mv (.t 0), none⟩,
  ⟨some 98, .len .str (.t 97), none⟩,
  ⟨some 99, .bin .quo (.c (.int .i64 (.ofNat 8192))) (.t 98), none⟩,
  ⟨some 100, .mv (.t 0), none⟩,
  ⟨some 101, .len .str (.t 100), none⟩,
  ⟨some 102, .bin .mul (.t 99) (.t 101), none⟩,
  ⟨some 8, .mv (.t 102), none⟩]
@[simp] def f580r33 : List ROper := [
  ⟨some 103, .mv (.t 8), none⟩,
  ⟨some 104, .bin .eql (.t 103) (.c (.int .i64 (.ofNat 0))), none⟩]
@[simp] def f580r34 : List ROper := [
  ⟨some 105, .mv (.t 0), none⟩,
  ⟨some 106, .len .str (.t 105), none⟩,
  ⟨some 8, .mv (.t 106), none⟩]
@[simp] def f580r35 : List ROper := [
  ⟨some 9, .allocT 56 [.nilp, (.list 0 0 .no false [])], none⟩]
@[simp] def f580r36 : List ROper := [
  ⟨some 107, .mv (.t 7), none⟩,
  ⟨some 108, .call 591 [(.t 9), (.t 107)], none⟩]
@[simp] def f580r37 : List ROper := [
  ⟨some 109, .mv (.t 0), none⟩,
  ⟨some 110, .call 463 [(.t 9), (.t 109)], none⟩]
@[simp] def f580r38 : List ROper := [
  ⟨some 111, .call 592 [(.t 9)], none⟩,
  ⟨some 112, .mv (.t 7), none⟩,
  ⟨some 113, .bin .lss (.t 111) (.t 112), none⟩]
@[simp] def f580r39 : List ROper := [
  ⟨some 114, .mv (.t 7), none⟩,
  ⟨some 115, .call 592 [(.t 9)], none⟩,
  ⟨some 116, .bin .sub (.t 114) (.t 115), none⟩,
  ⟨some 117, .call 592 [(.t 9)], none⟩,
  ⟨some 118, .mv (.t 8), none⟩,
  ⟨some 119, .min [(.t 116), (.t 117), (.t 118)], none⟩,
  ⟨some 10, .mv (.t 119), none⟩]
@[simp] def f580r40 : List ROper := [
  ⟨some 120, .call 465 [(.t 9)], none⟩,
  ⟨some 121, .mv (.t 10), none⟩,
  ⟨some 122, .slice true 1 (.t 120) none (some (.t 121)) none, none⟩,
  ⟨some 123, .call 463 [(.t 9), (.t 122)], none⟩]
def f580B0 : RC := (.seq (.seq (.region f580r38 [7, 8, 9, 113]) (.cond (.t 113) .skip (.exit 3))) (.block 4 (.seq (.region f580r39 [7, 8, 9, 10]) (.region f580r40 [7, 8, 9]))))
def f580L0 : RC := .loop [7, 8, 9] f580B0
@[simp] def f580r41 : List ROper := [
  ⟨some 124, .call 465 [(.t 9)], none⟩,
  ⟨some 4, .mv (.t 124), none⟩]
def f580 : RFunc := ⟨[.t 4], (.seq (.region f580r0 [0, 1]) (.seq (.seq (.region f580r1 [0, 1, 11]) (.block 0 (.seq (.region f580r2 [0, 1, 11, 12]) (.cond (.t 12) (.seq (.region f580r3 [4]) .ret) (.seq (.region f580r4 [0, 1, 14]) (.cond (.t 14) (.seq (.region f580r5 [4]) .ret) .skip)))))) (.seq (.seq (.region f580r6 [0, 1, 18]) (.cond (.t 18) (.region f580r7 [0, 1]) .skip)) (.seq (.region f580r8 [0, 5, 6]) (.seq (.seq (.region f580r9 [0, 6, 34]) (.cond (.t 34) (.region f580r10 [0, 6]) .skip)) (.seq (.region f580r11 [0, 7]) (.seq (.seq (.region f580r12 [0, 7, 40]) (.cond (.t 40) (.seq (.region f580r13 [4]) .ret) .skip)) (.seq (.seq (.region f580r14 [0, 7, 42]) (.block 1 (.seq (.seq (.region f580r15 [0, 7, 42, 43]) (.cond (.t 43) .skip (.seq (.region f580r16 [0, 7, 42, 43]) (.cond (.t 43) .skip (.seq (.region f580r17 [0, 7, 42, 43]) (.cond (.t 43) .skip (.seq (.region f580r18 [0, 7, 42, 43]) (.cond (.t 43) .skip (.region f580r19 [0, 7, 43]))))))))) (.cond (.t 43) (.block 2 (.seq (.region f580r20 [0, 7, 49]) (.cond (.t 49) (.seq (.region f580r21 [4]) .ret) (.seq (.region f580r22 [0, 7, 58]) (.cond (.t 58) (.seq (.region f580r23 [4]) .ret) (.seq (.region f580r24 [0, 7, 67]) (.cond (.t 67) (.seq (.region f580r25 [4]) .ret) (.seq (.region f580r26 [0, 7, 76]) (.cond (.t 76) (.seq (.region f580r27 [4]) .ret) (.seq (.region f580r28 [0, 7, 85]) (.cond (.t 85) (.seq (.region f580r29 [4]) .ret) .skip))))))))))) .skip)))) (.seq (.region f580r30 [0, 7, 8]) (.seq (.seq (.region f580r31 [0, 7, 8, 96]) (.cond (.t 96) (.seq (.region f580r32 [0, 7, 8]) (.seq (.region f580r33 [0, 7, 8, 104]) (.cond (.t 104) (.region f580r34 [0, 7, 8]) .skip))) .skip)) (.seq (.region f580r35 [0, 7, 8, 9]) (.seq (.region f580r36 [0, 7, 8, 9]) (.seq (.region f580r37 [7, 8, 9]) (.seq (.block 3 f580L0) (.seq (.region f580r41 [4]) .ret))))))))))))))), true⟩

/-! (*quire/piece.Text).Insert -/
@[simp] def f581r0 : List ROper := [
  ⟨some 6, .mv (.c (.int .i64 (.ofNat 0))), none⟩]
@[simp] def f581r1 : List ROper := [
  ⟨some 9, .mv (.t 0), none⟩,
  ⟨some 10, .call 587 [(.t 9)], none⟩,
  ⟨some 8, .mv (.t 10), none⟩]
@[simp] def f581r2 : List ROper := [
  ⟨some 6, .mv (.c (.int .i64 (.ofNat 1))), none⟩]
@[simp] def f581r3 : List ROper := [
  ⟨some 12, .mv (.t 1), none⟩,
  ⟨some 13, .bin .lss (.t 12) (.c (.int .i64 (.ofNat 0))), none⟩,
  ⟨some 14, .mv (.t 13), none⟩,
  ⟨some 15, .mv (.t 1), some (14, false)⟩,
  ⟨some 16, .mv (.t 0), some (14, false)⟩,
  ⟨some 17, .nilchk (.t 16), some (14, false)⟩,
  ⟨some 18, .faddr 2 (.t 17), some (14, false)⟩,
  ⟨some 19, .load 1 false (.t 18), some (14, false)⟩,
  ⟨some 20, .bin .gtr (.t 15) (.t 19), some (14, false)⟩,
  ⟨some 21, .pick (.t 14) (.c (.bool true)) (.t 20), none⟩,
  ⟨some 11, .mv (.t 21), none⟩]
@[simp] def f581r4 : List ROper := [
  ⟨some 6, .mv (.c (.int .i64 (.ofNat 5))), none⟩]
@[simp] def f581r5 : List ROper := [
  ⟨some 23, .mv (.t 2), none⟩,
  ⟨some 24, .call 586 [(.t 23)], none⟩,
  ⟨some 25, .un .not (.t 24), none⟩,
  ⟨some 22, .mv (.t 25), none⟩]
@[simp] def f581r6 : List ROper := [
  ⟨some 6, .mv (.c (.int .i64 (.ofNat 4))), none⟩]
@[simp] def f581r7 : List ROper := [
  ⟨some 27, .mv (.t 2), none⟩,
  ⟨some 28, .len .str (.t 27), none⟩,
  ⟨some 29, .mv (.t 0), none⟩,
  ⟨some 30, .nilchk (.t 29), none⟩,
  ⟨some 31, .faddr 2 (.t 30), none⟩,
  ⟨some 32, .load 1 false (.t 31), none⟩,
  ⟨some 33, .bin .sub (.c (.int .i64 (.ofNat 4096))) (.t 32), none⟩,
  ⟨some 34, .bin .gtr (.t 28) (.t 33), none⟩,
  ⟨some 26, .mv (.t 34), none⟩]
@[simp] def f581r8 : List ROper := [
  ⟨some 6, .mv (.c (.int .i64 (.ofNat 8))), none⟩]
@[simp] def f581r9 : List ROper := [
  ⟨some 36, .mv (.t 2), none⟩,
  ⟨some 37, .bin .eql (.t 36) (.c (.str [])), none⟩,
  ⟨some 35, .mv (.t 37), none⟩]
@[simp] def f581r10 : List ROper := [
  ⟨some 6, .mv (.c (.int .i64 (.ofNat 0))), none⟩]
@[simp] def f581r11 : List ROper := [
  ⟨some 38, .mv (.t 0), none⟩,
  ⟨some 39, .mv (.t 1), none⟩,
  ⟨some 40, .call 593 [(.t 38), (.t 39)], none⟩,
  ⟨some 7, .mv (.t 40), none⟩]
@[simp] def f581r12 : List ROper := [
  ⟨some 41, .mv (.t 0), none⟩,
  ⟨some 42, .mv (.t 0), none⟩,
  ⟨some 43, .nilchk (.t 42), none⟩,
  ⟨some 44, .faddr 1 (.t 43), none⟩,
  ⟨some 45, .load 1 false (.t 44), none⟩,
  ⟨some 46, .mv (.t 7), none⟩,
  ⟨some 47, .mv (.t 7), none⟩,
  ⟨some 48, .slice false 1 (.t 45) none (some (.t 46)) (some (.t 47)), none⟩,
  ⟨some 49, .mv (.t 2), none⟩,
  ⟨some 50, .build [(.str [])] [(0, 1, (.t 49))], none⟩,
  ⟨some 51, .lit 1 true [(.str [])] 1 [(0, (.t 50))], none⟩,
  ⟨some 52, .mv (.t 0), none⟩,
  ⟨some 53, .nilchk (.t 52), none⟩,
  ⟨some 54, .faddr 1 (.t 53), none⟩,
  ⟨some 55, .load 1 false (.t 54), none⟩,
  ⟨some 56, .mv (.t 7), none⟩,
  ⟨some 57, .slice false 1 (.t 55) (some (.t 56)) none none, none⟩,
  ⟨some 58, .append 1 true 16 (.t 51) (.t 57), none⟩,
  ⟨some 59, .append 1 true 16 (.t 48) (.t 58), none⟩,
  ⟨some 60, .nilchk (.t 41), none⟩,
  ⟨some 61, .faddr 1 (.t 60), none⟩,
  ⟨none, .store 1 (.t 61) (.t 59), none⟩]
@[simp] def f581r13 : List ROper := [
  ⟨some 62, .mv (.t 0), none⟩,
  ⟨some 63, .nilchk (.t 62), none⟩,
  ⟨some 64, .faddr 2 (.t 63), none⟩,
  ⟨some 65, .load 1 false (.t 64), none⟩,
  ⟨some 66, .mv (.t 2), none⟩,
  ⟨some 67, .len .str (.t 66), none⟩,
  ⟨some 68, .bin .add (.t 65) (.t 67), none⟩,
  ⟨some 69, .nilchk (.t 62), none⟩,
  ⟨some 70, .faddr 2 (.t 69), none⟩,
  ⟨none, .store 1 (.t 70) (.t 68), none⟩]
@[simp] def f581r14 : List ROper := [
  ⟨some 6, .mv (.c (.int .i64 (.ofNat 0))), none⟩]
def f581 : RFunc := ⟨[.t 6], (.seq (.region f581r0 [0, 1, 2]) (.seq (.block 0 (.seq (.region f581r1 [0, 1, 2, 8]) (.cond (.t 8) (.seq (.region f581r2 [6]) .ret) (.seq (.region f581r3 [0, 1, 2, 11]) (.cond (.t 11) (.seq (.region f581r4 [6]) .ret) (.seq (.region f581r5 [0, 1, 2, 22]) (.cond (.t 22) (.seq (.region f581r6 [6]) .ret) (.seq (.region f581r7 [0, 1, 2, 26]) (.cond (.t 26) (.seq (.region f581r8 [6]) .ret) (.seq (.region f581r9 [0, 1, 2, 35]) (.cond (.t 35) (.seq (.region f581r10 [6]) .ret) .skip))))))))))) (.seq (.region f581r11 [0, 2, 7]) (.seq (.dregion f581r12 [] [(4, [1])] [0, 2]) (.seq (.region f581r13 []) (.seq (.region f581r14 [6]) .ret)))))), false⟩

/-! (*quire/piece.Text).Delete -/
@[simp] def f582r0 : List ROper := [
  ⟨some 6, .mv (.c (.int .i64 (.ofNat 0))), none⟩]
@[simp] def f582r1 : List ROper := [
  ⟨some 10, .mv (.t 0), none⟩,
  ⟨some 11, .call 587 [(.t 10)], none⟩,
  ⟨some 9, .mv (.t 11), none⟩]
@[simp] def f582r2 : List ROper := [
  ⟨some 6, .mv (.c (.int .i64 (.ofNat 1))), none⟩]
@[simp] def f582r3 : List ROper := [
  ⟨some 13, .mv (.t 1), none⟩,
  ⟨some 14, .bin .lss (.t 13) (.c (.int .i64 (.ofNat 0))), none⟩,
  ⟨some 15, .mv (.t 14), none⟩,
  ⟨some 16, .mv (.t 2), some (15, false)⟩,
  ⟨some 17, .bin .lss (.t 16) (.c (.int .i64 (.ofNat 0))), some (15, false)⟩,
  ⟨some 18, .pick (.t 15) (.c (.bool true)) (.t 17), none⟩,
  ⟨some 19, .mv (.t 18), none⟩,
  ⟨some 20, .mv (.t 1), some (19, false)⟩,
  ⟨some 21, .mv (.t 0), some (19, false)⟩,
  ⟨some 22, .nilchk (.t 21), some (19, false)⟩,
  ⟨some 23, .faddr 2 (.t 22), some (19, false)⟩,
  ⟨some 24, .load 1 false (.t 23), some (19, false)⟩,
  ⟨some 25, .bin .gtr (.t 20) (.t 24), some (19, false)⟩,
  ⟨some 26, .pick (.t 19) (.c (.bool true)) (.t 25), none⟩,
  ⟨some 27, .mv (.t 26), none⟩,
  ⟨some 28, .mv (.t 2), some (27, false)⟩,
  ⟨some 29, .mv (.t 0), some (27, false)⟩,
  ⟨some 30, .nilchk (.t 29), some (27, false)⟩,
  ⟨some 31, .faddr 2 (.t 30), some (27, false)⟩,
  ⟨some 32, .load 1 false (.t 31), some (27, false)⟩,
  ⟨some 33, .mv (.t 1), some (27, false)⟩,
  ⟨some 34, .bin .sub (.t 32) (.t 33), some (27, false)⟩,
  ⟨some 35, .bin .gtr (.t 28) (.t 34), some (27, false)⟩,
  ⟨some 36, .pick (.t 27) (.c (.bool true)) (.t 35), none⟩,
  ⟨some 12, .mv (.t 36), none⟩]
@[simp] def f582r4 : List ROper := [
  ⟨some 6, .mv (.c (.int .i64 (.ofNat 5))), none⟩]
@[simp] def f582r5 : List ROper := [
  ⟨some 38, .mv (.t 2), none⟩,
  ⟨some 39, .bin .eql (.t 38) (.c (.int .i64 (.ofNat 0))), none⟩,
  ⟨some 37, .mv (.t 39), none⟩]
@[simp] def f582r6 : List ROper := [
  ⟨some 6, .mv (.c (.int .i64 (.ofNat 0))), none⟩]
@[simp] def f582r7 : List ROper := [
  ⟨some 40, .mv (.t 0), none⟩,
  ⟨some 41, .mv (.t 1), none⟩,
  ⟨some 42, .call 593 [(.t 40), (.t 41)], none⟩,
  ⟨some 7, .mv (.t 42), none⟩]
@[simp] def f582r8 : List ROper := [
  ⟨some 43, .mv (.t 0), none⟩,
  ⟨some 44, .mv (.t 1), none⟩,
  ⟨some 45, .mv (.t 2), none⟩,
  ⟨some 46, .bin .add (.t 44) (.t 45), none⟩,
  ⟨some 47, .call 593 [(.t 43), (.t 46)], none⟩,
  ⟨some 8, .mv (.t 47), none⟩]
@[simp] def f582r9 : List ROper := [
  ⟨some 48, .mv (.t 0), none⟩,
  ⟨some 49, .mv (.t 0), none⟩,
  ⟨some 50, .nilchk (.t 49), none⟩,
  ⟨some 51, .faddr 1 (.t 50), none⟩,
  ⟨some 52, .load 1 false (.t 51), none⟩,
  ⟨some 53, .mv (.t 7), none⟩,
  ⟨some 54, .mv (.t 7), none⟩,
  ⟨some 55, .slice false 1 (.t 52) none (some (.t 53)) (some (.t 54)), none⟩,
  ⟨some 56, .mv (.t 0), none⟩,
  ⟨some 57, .nilchk (.t 56), none⟩,
  ⟨some 58, .faddr 1 (.t 57), none⟩,
  ⟨some 59, .load 1 false (.t 58), none⟩,
  ⟨some 60, .mv (.t 8), none⟩,
  ⟨some 61, .slice false 1 (.t 59) (some (.t 60)) none none, none⟩,
  ⟨some 62, .append 1 true 16 (.t 55) (.t 61), none⟩,
  ⟨some 63, .nilchk (.t 48), none⟩,
  ⟨some 64, .faddr 1 (.t 63), none⟩,
  ⟨none, .store 1 (.t 64) (.t 62), none⟩]
@[simp] def f582r10 : List ROper := [
  ⟨some 65, .mv (.t 0), none⟩,
  ⟨some 66, .nilchk (.t 65), none⟩,
  ⟨some 67, .faddr 2 (.t 66), none⟩,
  ⟨some 68, .load 1 false (.t 67), none⟩,
  ⟨some 69, .mv (.t 2), none⟩,
  ⟨some 70, .bin .sub (.t 68) (.t 69), none⟩,
  ⟨some 71, .nilchk (.t 65), none⟩,
  ⟨some 72, .faddr 2 (.t 71), none⟩,
  ⟨none, .store 1 (.t 72) (.t 70), none⟩]
@[simp] def f582r11 : List ROper := [
  ⟨some 6, .mv (.c (.int .i64 (.ofNat 0))), none⟩]
def f582 : RFunc := ⟨[.t 6], (.seq (.region f582r0 [0, 1, 2]) (.seq (.block 0 (.seq (.region f582r1 [0, 1, 2, 9]) (.cond (.t 9) (.seq (.region f582r2 [6]) .ret) (.seq (.region f582r3 [0, 1, 2, 12]) (.cond (.t 12) (.seq (.region f582r4 [6]) .ret) (.seq (.region f582r5 [0, 1, 2, 37]) (.cond (.t 37) (.seq (.region f582r6 [6]) .ret) .skip))))))) (.seq (.region f582r7 [0, 1, 2, 7]) (.seq (.region f582r8 [0, 2, 7, 8]) (.seq (.dregion f582r9 [] [] [0, 2]) (.seq (.region f582r10 []) (.seq (.region f582r11 [6]) .ret))))))), false⟩

/-! quire/quirelaw01.awake -/
@[simp] def f583r0 : List ROper := [
  ⟨some 0, .mv (.c (.bool false)), none⟩]
@[simp] def f583r1 : List ROper := [
  ⟨some 4, .call 577 [(.c (.str [97, 98, 99, 100]))], none⟩,
  ⟨some 3, .mv (.t 4), none⟩,
  ⟨some 5, .extract (.t 3) 0, none⟩,
  ⟨some 6, .extract (.t 3) 1, none⟩,
  ⟨some 1, .mv (.t 5), none⟩,
  ⟨some 2, .mv (.t 6), none⟩]
@[simp] def f583r2 : List ROper := [
  ⟨some 7, .mv (.t 2), none⟩,
  ⟨some 8, .bin .neq (.t 7) (.c (.int .i64 (.ofNat 0))), none⟩,
  ⟨some 9, .mv (.t 8), none⟩,
  ⟨some 10, .mv (.t 1), some (9, false)⟩,
  ⟨some 11, .eq .ptr false (.t 10) (.c .nilp), some (9, false)⟩,
  ⟨some 12, .pick (.t 9) (.c (.bool true)) (.t 11), none⟩,
  ⟨some 13, .mv (.t 12), none⟩,
  ⟨some 14, .mv (.t 1), some (13, false)⟩,
  ⟨some 15, .call 581 [(.t 14), (.c (.int .i64 (.ofNat 2))), (.c (.str [88, 89]))], some (13, false)⟩,
  ⟨some 16, .bin .neq (.t 15) (.c (.int .i64 (.ofNat 0))), some (13, false)⟩,
  ⟨some 17, .pick (.t 13) (.c (.bool true)) (.t 16), none⟩,
  ⟨some 18, .mv (.t 17), none⟩,
  ⟨some 19, .mv (.t 1), some (18, false)⟩,
  ⟨some 20, .call 594 [(.t 19)], some (18, false)⟩,
  ⟨some 21, .bin .neq (.t 20) (.c (.str [97, 98, 88, 89, 99, 100])), some (18, false)⟩,
  ⟨some 22, .pick (.t 18) (.c (.bool true)) (.t 21), none⟩,
  ⟨some 23, .mv (.t 22), none⟩,
  ⟨some 24, .mv (.t 1), some (23, false)⟩,
  ⟨some 25, .call 595 [(.t 24)], some (23, false)⟩,
  ⟨some 26, .bin .neq (.t 25) (.c (.int .i64 (.ofNat 3))), some (23, false)⟩,
  ⟨some 27, .pick (.t 23) (.c (.bool true)) (.t 26), none⟩]
@[simp] def f583r3 : List ROper := [
  ⟨some 0, .mv (.c (.bool false)), none⟩]
@[simp] def f583r4 : List ROper := [
  ⟨some 28, .mv (.t 1), none⟩,
  ⟨some 29, .call 582 [(.t 28), (.c (.int .i64 (.ofNat 1))), (.c (.int .i64 (.ofNat 4)))], none⟩,
  ⟨some 30, .bin .eql (.t 29) (.c (.int .i64 (.ofNat 0))), none⟩,
  ⟨some 31, .mv (.t 30), none⟩,
  ⟨some 32, .mv (.t 1), some (31, true)⟩,
  ⟨some 33, .call 594 [(.t 32)], some (31, true)⟩,
  ⟨some 34, .bin .eql (.t 33) (.c (.str [97, 100])), some (31, true)⟩,
  ⟨some 35, .pick (.t 31) (.t 34) (.c (.bool false)), none⟩,
  ⟨some 36, .mv (.t 35), none⟩,
  ⟨some 37, .mv (.t 1), some (36, true)⟩,
  ⟨some 38, .call 595 [(.t 37)], some (36, true)⟩,
  ⟨some 39, .bin .eql (.t 38) (.c (.int .i64 (.ofNat 2))), some (36, true)⟩,
  ⟨some 40, .pick (.t 36) (.t 39) (.c (.bool false)), none⟩,
  ⟨some 0, .mv (.t 40), none⟩]
def f583 : RFunc := ⟨[.t 0], (.seq (.region f583r0 []) (.seq (.region f583r1 [1, 2]) (.seq (.seq (.region f583r2 [1, 27]) (.cond (.t 27) (.seq (.region f583r3 [0]) .ret) .skip)) (.seq (.region f583r4 [0]) .ret)))), true⟩

/-! (*quire/piece.Text).Find -/
@[simp] def f584r0 : List ROper := [
  ⟨some 4, .box 1 (.t 1), none⟩,
  ⟨some 5, .box 1 (.t 2), none⟩,
  ⟨some 6, .alloc [(.int .i64 (.ofNat 0))], none⟩]
@[simp] def f584r1 : List ROper := [
  ⟨some 11, .mv (.t 0), none⟩,
  ⟨some 12, .call 587 [(.t 11)], none⟩]
@[simp] def f584r2 : List ROper := [
  ⟨none, .store 1 (.t 6) (.c (.int .i64 (.negSucc 0))), none⟩]
@[simp] def f584r3 : List ROper := [
  ⟨some 13, .load 1 false (.t 5), none⟩,
  ⟨some 14, .max [(.t 13), (.c (.int .i64 (.ofNat 0)))], none⟩,
  ⟨none, .store 1 (.t 5) (.t 14), none⟩]
@[simp] def f584r4 : List ROper := [
  ⟨some 15, .mv (.t 0), none⟩,
  ⟨some 16, .mkfn 588 [(.t 15)] [], none⟩]
@[simp] def f584r5 : List ROper := [
  ⟨some 7, .mv (.t 17), none⟩]
@[simp] def f584r6 : List ROper := [
  ⟨some 8, .alloc [(.str [])], none⟩,
  ⟨none, .store 1 (.t 8) (.t 18), none⟩]
@[simp] def f584r7 : List ROper := [
  ⟨some 19, .load 1 false (.t 5), none⟩,
  ⟨some 20, .mv (.t 7), none⟩,
  ⟨some 21, .bin .sub (.t 19) (.t 20), none⟩,
  ⟨some 22, .max [(.t 21), (.c (.int .i64 (.ofNat 0)))], none⟩,
  ⟨some 9, .mv (.t 22), none⟩]
@[simp] def f584r8 : List ROper := [
  ⟨some 23, .mv (.t 9), none⟩,
  ⟨some 24, .faddr 0 (.t 8), none⟩,
  ⟨some 25, .load 1 false (.t 24), none⟩,
  ⟨some 26, .len .str (.t 25), none⟩,
  ⟨some 27, .bin .geq (.t 23) (.t 26), none⟩]
@[simp] def f584r9 : List ROper := [
  ⟨some 28, .faddr 0 (.t 8), none⟩,
  ⟨some 29, .load 1 false (.t 28), none⟩,
  ⟨some 30, .mv (.t 9), none⟩,
  ⟨some 31, .slice true 1 (.t 29) (some (.t 30)) none none, none⟩,
  ⟨some 32, .load 1 false (.t 4), none⟩,
  ⟨some 33, .call 40 [(.t 31), (.t 32)], none⟩,
  ⟨some 10, .mv (.t 33), none⟩]
@[simp] def f584r10 : List ROper := [
  ⟨some 34, .mv (.t 10), none⟩,
  ⟨some 35, .bin .geq (.t 34) (.c (.int .i64 (.ofNat 0))), none⟩]
@[simp] def f584r11 : List ROper := [
  ⟨some 36, .mv (.t 7), none⟩,
  ⟨some 37, .mv (.t 9), none⟩,
  ⟨some 38, .bin .add (.t 36) (.t 37), none⟩,
  ⟨some 39, .mv (.t 10), none⟩,
  ⟨some 40, .bin .add (.t 38) (.t 39), none⟩,
  ⟨none, .store 1 (.t 6) (.t 40), none⟩]
@[simp] def f584r12 : List ROper := [
  ⟨none, .store 1 (.t 6) (.c (.int .i64 (.negSucc 0))), none⟩]
def f584 : RFunc := ⟨[.cell 6 1 false], (.seq (.region f584r0 [0, 4, 5, 6]) (.seq (.seq (.region f584r1 [0, 4, 5, 6, 12]) (.cond (.t 12) (.seq (.region f584r2 [6]) .ret) .skip)) (.seq (.region f584r3 [0, 4, 5, 6]) (.seq (.seq (.region f584r4 [4, 5, 6, 16]) (.block 0 (.rfunc (.t 16) [17, 18] (.seq (.region f584r5 [4, 5, 6, 7, 18]) (.region f584r6 [4, 5, 6, 7, 8])) (.block 1 (.seq (.region f584r7 [4, 6, 7, 8, 9]) (.seq (.seq (.region f584r8 [4, 6, 7, 8, 9, 27]) (.cond (.t 27) (.exit 1) .skip)) (.seq (.dregion f584r9 [] [] [6, 7, 9, 10]) (.seq (.region f584r10 [6, 7, 9, 10, 35]) (.cond (.t 35) (.seq (.region f584r11 [6]) .ret) .skip)))))) [4, 5, 6, 16]))) (.seq (.region f584r12 [6]) .ret))))), false⟩

/-! (*quire/piece.Text).Count -/
@[simp] def f585r0 : List ROper := [
  ⟨some 4, .mv (.c (.int .i64 (.ofNat 0))), none⟩]
@[simp] def f585r1 : List ROper := [
  ⟨some 8, .mv (.t 0), none⟩,
  ⟨some 9, .call 587 [(.t 8)], none⟩]
@[simp] def f585r2 : List ROper := [
  ⟨some 4, .mv (.c (.int .i64 (.ofNat 0))), none⟩]
@[simp] def f585r3 : List ROper := [
  ⟨some 5, .mv (.c (.int .i64 (.ofNat 0))), none⟩]
@[simp] def f585r4 : List ROper := [
  ⟨some 10, .mv (.t 0), none⟩,
  ⟨some 11, .nilchk (.t 10), none⟩,
  ⟨some 12, .faddr 1 (.t 11), none⟩,
  ⟨some 13, .load 1 false (.t 12), none⟩,
  ⟨some 14, .len .slice (.t 13), none⟩,
  ⟨some 15, .mv (.c (.int .i64 (.ofNat 0))), none⟩]
@[simp] def f585r5 : List ROper := [
  ⟨some 16, .bin .lss (.t 15) (.t 14), none⟩]
@[simp] def f585r6 : List ROper := [
  ⟨some 17, .iaddr 1 (.t 13) (.t 15), none⟩,
  ⟨some 18, .load 1 true (.t 17), none⟩,
  ⟨some 7, .alloc [(.str [])], none⟩,
  ⟨none, .store 1 (.t 7) (.t 18), none⟩]
@[simp] def f585r7 : List ROper := [
  ⟨some 19, .mv (.t 5), none⟩,
  ⟨some 20, .faddr 0 (.t 7), none⟩,
  ⟨some 21, .load 1 false (.t 20), none⟩,
  ⟨some 22, .mv (.t 1), none⟩,
  ⟨some 23, .lit 1 false [(.int .u8 (.ofNat 0))] 1 [(0, (.t 22))], none⟩,
  ⟨some 24, .b2s (.t 23), none⟩,
  ⟨some 25, .call 44 [(.t 21), (.t 24)], none⟩,
  ⟨some 26, .bin .add (.t 19) (.t 25), none⟩,
  ⟨some 5, .mv (.t 26), none⟩]
@[simp] def f585r8 : List ROper := [
  ⟨some 27, .bin .add (.t 15) (.c (.int .i64 (.ofNat 1))), none⟩,
  ⟨some 15, .mv (.t 27), none⟩]
def f585B0 : RC := (.seq (.region f585r5 [1, 5, 13, 14, 15, 16]) (.seq (.cond (.t 16) .skip (.exit 0)) (.seq (.block 1 (.seq (.region f585r6 [1, 5, 7, 13, 14, 15]) (.region f585r7 [1, 5, 13, 14, 15]))) (.region f585r8 [1, 5, 13, 14, 15]))))
def f585L0 : RC := .loop [1, 5, 13, 14, 15] f585B0
@[simp] def f585r9 : List ROper := [
  ⟨some 28, .mv (.t 5), none⟩,
  ⟨some 4, .mv (.t 28), none⟩]
def f585 : RFunc := ⟨[.t 4], (.seq (.region f585r0 [0, 1]) (.seq (.seq (.region f585r1 [0, 1, 9]) (.cond (.t 9) (.seq (.region f585r2 [4]) .ret) .skip)) (.seq (.region f585r3 [0, 1, 5]) (.seq (.seq (.region f585r4 [1, 5, 13, 14, 15]) (.block 0 f585L0)) (.seq (.region f585r9 [4]) .ret))))), false⟩

/-! quire/piece.May -/
@[simp] def f586r0 : List ROper := [
  ⟨some 2, .mv (.c (.bool false)), none⟩]
@[simp] def f586r1 : List ROper := [
  ⟨some 4, .mv (.t 0), none⟩,
  ⟨some 5, .len .str (.t 4), none⟩,
  ⟨some 6, .mv (.c (.int .i64 (.ofNat 0))), none⟩]
@[simp] def f586r2 : List ROper := [
  ⟨some 7, .bin .lss (.t 6) (.t 5), none⟩]
@[simp] def f586r3 : List ROper := [
  ⟨some 8, .mv (.t 6), none⟩,
  ⟨some 3, .mv (.t 8), none⟩]
@[simp] def f586r4 : List ROper := [
  ⟨some 9, .mv (.t 0), none⟩,
  ⟨some 10, .mv (.t 3), none⟩,
  ⟨some 11, .index (.t 9) (.t 10), none⟩,
  ⟨some 12, .call 596 [(.t 11)], none⟩,
  ⟨some 13, .un .not (.t 12), none⟩]
@[simp] def f586r5 : List ROper := [
  ⟨some 2, .mv (.c (.bool false)), none⟩]
@[simp] def f586r6 : List ROper := [
  ⟨some 14, .bin .add (.t 6) (.c (.int .i64 (.ofNat 1))), none⟩,
  ⟨some 6, .mv (.t 14), none⟩]
def f586B0 : RC := (.seq (.region f586r2 [0, 5, 6, 7]) (.seq (.cond (.t 7) .skip (.exit 0)) (.seq (.block 1 (.seq (.region f586r3 [0, 3, 5, 6]) (.seq (.region f586r4 [0, 5, 6, 13]) (.cond (.t 13) (.seq (.region f586r5 [2]) .ret) .skip)))) (.region f586r6 [0, 5, 6]))))
def f586L0 : RC := .loop [0, 5, 6] f586B0
@[simp] def f586r7 : List ROper := [
  ⟨some 2, .mv (.c (.bool true)), none⟩]
def f586 : RFunc := ⟨[.t 2], (.seq (.region f586r0 [0]) (.seq (.seq (.region f586r1 [0, 5, 6]) (.block 0 f586L0)) (.seq (.region f586r7 [2]) .ret))), true⟩

/-! (*quire/piece.Text).none -/
@[simp] def f587r0 : List ROper := [
  ⟨some 2, .mv (.c (.bool false)), none⟩]
@[simp] def f587r1 : List ROper := [
  ⟨some 3, .mv (.t 0), none⟩,
  ⟨some 4, .eq .ptr false (.t 3) (.c .nilp), none⟩,
  ⟨some 5, .mv (.t 4), none⟩,
  ⟨some 6, .mv (.t 0), some (5, false)⟩,
  ⟨some 7, .nilchk (.t 6), some (5, false)⟩,
  ⟨some 8, .faddr 0 (.t 7), some (5, false)⟩,
  ⟨some 9, .load 1 false (.t 8), some (5, false)⟩,
  ⟨some 10, .un .not (.t 9), some (5, false)⟩,
  ⟨some 11, .pick (.t 5) (.c (.bool true)) (.t 10), none⟩,
  ⟨some 2, .mv (.t 11), none⟩]
def f587 : RFunc := ⟨[.t 2], (.seq (.region f587r0 [0]) (.seq (.region f587r1 [2]) .ret)), false⟩

/-! (*quire/piece.Text).all -/
@[simp] def f588r0 : List ROper := [
  ⟨some 4, .mv (.c (.int .i64 (.ofNat 0))), none⟩]
@[simp] def f588r1 : List ROper := [
  ⟨some 7, .mv (.t 0), none⟩,
  ⟨some 8, .nilchk (.t 7), none⟩,
  ⟨some 9, .faddr 1 (.t 8), none⟩,
  ⟨some 10, .load 1 false (.t 9), none⟩,
  ⟨some 11, .len .slice (.t 10), none⟩,
  ⟨some 12, .mv (.c (.int .i64 (.ofNat 0))), none⟩]
@[simp] def f588r2 : List ROper := [
  ⟨some 13, .bin .lss (.t 12) (.t 11), none⟩]
@[simp] def f588r3 : List ROper := [
  ⟨some 14, .iaddr 1 (.t 10) (.t 12), none⟩,
  ⟨some 15, .load 1 true (.t 14), none⟩,
  ⟨some 6, .alloc [(.str [])], none⟩,
  ⟨none, .store 1 (.t 6) (.t 15), none⟩]
@[simp] def f588r4 : List ROper := [
  ⟨some 16, .mv (.t 1), none⟩,
  ⟨some 17, .mv (.t 4), none⟩,
  ⟨some 18, .load 1 true (.t 6), none⟩,
  ⟨some 19, .callv (.t 16) [(.t 17), (.t 18)], none⟩,
  ⟨some 20, .un .not (.t 19), none⟩]
@[simp] def f588r5 : List ROper := [
  ⟨some 21, .mv (.t 4), none⟩,
  ⟨some 22, .faddr 0 (.t 6), none⟩,
  ⟨some 23, .load 1 false (.t 22), none⟩,
  ⟨some 24, .len .str (.t 23), none⟩,
  ⟨some 25, .bin .add (.t 21) (.t 24), none⟩,
  ⟨some 4, .mv (.t 25), none⟩]
@[simp] def f588r6 : List ROper := [
  ⟨some 26, .bin .add (.t 12) (.c (.int .i64 (.ofNat 1))), none⟩,
  ⟨some 12, .mv (.t 26), none⟩]
def f588B0 : RC := (.seq (.region f588r2 [1, 4, 10, 11, 12, 13]) (.seq (.cond (.t 13) .skip (.exit 0)) (.seq (.block 1 (.seq (.region f588r3 [1, 4, 6, 10, 11, 12]) (.seq (.seq (.region f588r4 [1, 4, 6, 10, 11, 12, 20]) (.cond (.t 20) .ret .skip)) (.region f588r5 [1, 4, 10, 11, 12])))) (.region f588r6 [1, 4, 10, 11, 12]))))
def f588L0 : RC := .loop [1, 4, 10, 11, 12] f588B0
def f588 : RFunc := ⟨[], (.seq (.region f588r0 [0, 1, 4]) (.seq (.region f588r1 [1, 4, 10, 11, 12]) (.block 0 f588L0))), false⟩

/-! math/bits.Mul -/
@[simp] def f589r0 : List ROper := [
  ⟨some 4, .mv (.c (.int .u64 (.ofNat 0))), none⟩,
  ⟨some 5, .mv (.c (.int .u64 (.ofNat 0))), none⟩]
@[simp] def f589r1 : List ROper := [
  ⟨some 11, .mv (.t 0), none⟩,
  ⟨some 12, .i2i .u32 (.t 11), none⟩,
  ⟨some 13, .mv (.t 1), none⟩,
  ⟨some 14, .i2i .u32 (.t 13), none⟩,
  ⟨some 15, .call 597 [(.t 12), (.t 14)], none⟩,
  ⟨some 10, .mv (.t 15), none⟩,
  ⟨some 16, .extract (.t 10) 0, none⟩,
  ⟨some 17, .extract (.t 10) 1, none⟩,
  ⟨some 6, .mv (.t 16), none⟩,
  ⟨some 7, .mv (.t 17), none⟩]
@[simp] def f589r2 : List ROper := [
  ⟨some 18, .mv (.t 6), none⟩,
  ⟨some 19, .i2i .u64 (.t 18), none⟩,
  ⟨some 20, .mv (.t 7), none⟩,
  ⟨some 21, .i2i .u64 (.t 20), none⟩,
  ⟨some 4, .mv (.t 19), none⟩,
  ⟨some 5, .mv (.t 21), none⟩]
@[simp] def f589r3 : List ROper := [
  ⟨some 23, .mv (.t 0), none⟩,
  ⟨some 24, .mv (.t 1), none⟩,
  ⟨some 25, .call 598 [(.t 23), (.t 24)], none⟩,
  ⟨some 22, .mv (.t 25), none⟩,
  ⟨some 26, .extract (.t 22) 0, none⟩,
  ⟨some 27, .extract (.t 22) 1, none⟩,
  ⟨some 8, .mv (.t 26), none⟩,
  ⟨some 9, .mv (.t 27), none⟩]
@[simp] def f589r4 : List ROper := [
  ⟨some 28, .mv (.t 8), none⟩,
  ⟨some 29, .mv (.t 9), none⟩,
  ⟨some 4, .mv (.t 28), none⟩,
  ⟨some 5, .mv (.t 29), none⟩]
def f589 : RFunc := ⟨[.t 4, .t 5], (.seq (.region f589r0 [0, 1]) (.seq (.cond (.c (.bool false)) (.seq (.region f589r1 [6, 7]) (.seq (.region f589r2 [4, 5]) .ret)) .skip) (.seq (.region f589r3 [8, 9]) (.seq (.region f589r4 [4, 5]) .ret)))), true⟩

/-! strings.HasPrefix -/
@[simp] def f590r0 : List ROper := [
  ⟨some 4, .mv (.c (.bool false)), none⟩]
@[simp] def f590r1 : List ROper := [
  ⟨some 5, .mv (.t 0), none⟩,
  ⟨some 6, .mv (.t 1), none⟩,
  ⟨some 7, .call 599 [(.t 5), (.t 6)], none⟩,
  ⟨some 4, .mv (.t 7), none⟩]
def f590 : RFunc := ⟨[.t 4], (.seq (.region f590r0 [0, 1]) (.seq (.region f590r1 [4]) .ret)), true⟩

/-! (*strings.Builder).Grow -/
@[simp] def f591r0 : List ROper := [
  ⟨some 4, .mv (.t 0), none⟩,
  ⟨some 5, .call 472 [(.t 4)], none⟩]
@[simp] def f591r1 : List ROper := [
  ⟨some 6, .mv (.t 1), none⟩,
  ⟨some 7, .bin .lss (.t 6) (.c (.int .i64 (.ofNat 0))), none⟩]
@[simp] def f591r2 : List ROper := [
  ⟨some 8, .iface 9 (.c (.str [115, 116, 114, 105, 110, 103, 115, 46, 66, 117, 105, 108, 100, 101, 114, 46, 71, 114, 111, 119, 58, 32, 110, 101, 103, 97, 116, 105, 118, 101, 32, 99, 111, 117, 110, 116])), none⟩,
  ⟨none, .fail, none⟩]
@[simp] def f591r3 : List ROper := [
  ⟨some 9, .mv (.t 0), none⟩,
  ⟨some 10, .nilchk (.t 9), none⟩,
  ⟨some 11, .faddr 1 (.t 10), none⟩,
  ⟨some 12, .load 1 false (.t 11), none⟩,
  ⟨some 13, .cap (.t 12), none⟩,
  ⟨some 14, .mv (.t 0), none⟩,
  ⟨some 15, .nilchk (.t 14), none⟩,
  ⟨some 16, .faddr 1 (.t 15), none⟩,
  ⟨some 17, .load 1 false (.t 16), none⟩,
  ⟨some 18, .len .slice (.t 17), none⟩,
  ⟨some 19, .bin .sub (.t 13) (.t 18), none⟩,
  ⟨some 20, .mv (.t 1), none⟩,
  ⟨some 21, .bin .lss (.t 19) (.t 20), none⟩]
@[simp] def f591r4 : List ROper := [
  ⟨some 22, .mv (.t 0), none⟩,
  ⟨some 23, .mv (.t 1), none⟩,
  ⟨some 24, .call 600 [(.t 22), (.t 23)], none⟩]
def f591 : RFunc := ⟨[], (.seq (.region f591r0 [0, 1]) (.seq (.seq (.region f591r1 [0, 1, 7]) (.cond (.t 7) (.region f591r2 [0, 1]) .skip)) (.seq (.dregion f591r3 [] [] [0, 1, 21]) (.cond (.t 21) (.region f591r4 []) .skip)))), false⟩

/-! (*strings.Builder).Len -/
@[simp] def f592r0 : List ROper := [
  ⟨some 2, .mv (.c (.int .i64 (.ofNat 0))), none⟩]
@[simp] def f592r1 : List ROper := [
  ⟨some 3, .mv (.t 0), none⟩,
  ⟨some 4, .nilchk (.t 3), none⟩,
  ⟨some 5, .faddr 1 (.t 4), none⟩,
  ⟨some 6, .load 1 false (.t 5), none⟩,
  ⟨some 7, .len .slice (.t 6), none⟩,
  ⟨some 2, .mv (.t 7), none⟩]
def f592 : RFunc := ⟨[.t 2], (.seq (.region f592r0 [0]) (.seq (.region f592r1 [2]) .ret)), false⟩

/-! (*quire/piece.Text).cut -/
@[simp] def f593r0 : List ROper := [
  ⟨some 2, .box 1 (.t 0), none⟩,
  ⟨some 3, .box 1 (.t 1), none⟩,
  ⟨some 4, .alloc [(.int .i64 (.ofNat 0))], none⟩]
@[simp] def f593r1 : List ROper := [
  ⟨some 5, .alloc [(.int .i64 (.ofNat 0))], none⟩,
  ⟨none, .store 1 (.t 5) (.c (.int .i64 (.ofNat 0))), none⟩]
@[simp] def f593r2 : List ROper := [
  ⟨some 10, .load 1 false (.t 2), none⟩,
  ⟨some 11, .mkfn 588 [(.t 10)] [], none⟩]
@[simp] def f593r3 : List ROper := [
  ⟨some 6, .mv (.t 12), none⟩]
@[simp] def f593r4 : List ROper := [
  ⟨some 7, .alloc [(.str [])], none⟩,
  ⟨none, .store 1 (.t 7) (.t 13), none⟩]
@[simp] def f593r5 : List ROper := [
  ⟨some 14, .load 1 false (.t 3), none⟩,
  ⟨some 15, .mv (.t 6), none⟩,
  ⟨some 16, .bin .leq (.t 14) (.t 15), none⟩]
@[simp] def f593r6 : List ROper := [
  ⟨some 17, .load 1 false (.t 5), none⟩,
  ⟨none, .store 1 (.t 4) (.t 17), none⟩]
@[simp] def f593r7 : List ROper := [
  ⟨some 18, .load 1 false (.t 3), none⟩,
  ⟨some 19, .mv (.t 6), none⟩,
  ⟨some 20, .bin .sub (.t 18) (.t 19), none⟩,
  ⟨some 8, .mv (.t 20), none⟩]
@[simp] def f593r8 : List ROper := [
  ⟨some 21, .mv (.t 8), none⟩,
  ⟨some 22, .faddr 0 (.t 7), none⟩,
  ⟨some 23, .load 1 false (.t 22), none⟩,
  ⟨some 24, .len .str (.t 23), none⟩,
  ⟨some 25, .bin .lss (.t 21) (.t 24), none⟩]
@[simp] def f593r9 : List ROper := [
  ⟨some 26, .faddr 0 (.t 7), none⟩,
  ⟨some 27, .load 1 false (.t 26), none⟩,
  ⟨some 28, .mv (.t 8), none⟩,
  ⟨some 29, .slice true 1 (.t 27) none (some (.t 28)) none, none⟩,
  ⟨some 30, .build [(.str [])] [(0, 1, (.t 29))], none⟩,
  ⟨some 31, .faddr 0 (.t 7), none⟩,
  ⟨some 32, .load 1 false (.t 31), none⟩,
  ⟨some 33, .mv (.t 8), none⟩,
  ⟨some 34, .slice true 1 (.t 32) (some (.t 33)) none none, none⟩,
  ⟨some 35, .build [(.str [])] [(0, 1, (.t 34))], none⟩,
  ⟨some 36, .lit 1 true [(.str [])] 2 [(0, (.t 30)), (1, (.t 35))], none⟩,
  ⟨some 37, .load 1 false (.t 2), none⟩,
  ⟨some 38, .nilchk (.t 37), none⟩,
  ⟨some 39, .faddr 1 (.t 38), none⟩,
  ⟨some 40, .load 1 false (.t 39), none⟩,
  ⟨some 41, .load 1 false (.t 5), none⟩,
  ⟨some 42, .bin .add (.t 41) (.c (.int .i64 (.ofNat 1))), none⟩,
  ⟨some 43, .slice false 1 (.t 40) (some (.t 42)) none none, none⟩,
  ⟨some 44, .append 1 true 16 (.t 36) (.t 43), none⟩,
  ⟨some 9, .mv (.t 44), none⟩]
@[simp] def f593r10 : List ROper := [
  ⟨some 45, .load 1 false (.t 2), none⟩,
  ⟨some 46, .load 1 false (.t 2), none⟩,
  ⟨some 47, .nilchk (.t 46), none⟩,
  ⟨some 48, .faddr 1 (.t 47), none⟩,
  ⟨some 49, .load 1 false (.t 48), none⟩,
  ⟨some 50, .load 1 false (.t 5), none⟩,
  ⟨some 51, .load 1 false (.t 5), none⟩,
  ⟨some 52, .slice false 1 (.t 49) none (some (.t 50)) (some (.t 51)), none⟩,
  ⟨some 53, .mv (.t 9), none⟩,
  ⟨some 54, .append 1 true 16 (.t 52) (.t 53), none⟩,
  ⟨some 55, .nilchk (.t 45), none⟩,
  ⟨some 56, .faddr 1 (.t 55), none⟩,
  ⟨none, .store 1 (.t 56) (.t 54), none⟩]
@[simp] def f593r11 : List ROper := [
  ⟨some 57, .load 1 false (.t 5), none⟩,
  ⟨some 58, .bin .add (.t 57) (.c (.int .i64 (.ofNat 1))), none⟩,
  ⟨none, .store 1 (.t 4) (.t 58), none⟩]
@[simp] def f593r12 : List ROper := [
  ⟨some 59, .load 1 false (.t 5), none⟩,
  ⟨some 60, .bin .add (.t 59) (.c (.int .i64 (.ofNat 1))), none⟩,
  ⟨none, .store 1 (.t 5) (.t 60), none⟩]
@[simp] def f593r13 : List ROper := [
  ⟨some 61, .load 1 false (.t 5), none⟩,
  ⟨none, .store 1 (.t 4) (.t 61), none⟩]
def f593 : RFunc := ⟨[.cell 4 1 false], (.seq (.region f593r0 [2, 3, 4]) (.seq (.region f593r1 [2, 3, 4, 5]) (.seq (.seq (.region f593r2 [2, 3, 4, 5, 11]) (.block 0 (.rfunc (.t 11) [12, 13] (.seq (.region f593r3 [2, 3, 4, 5, 6, 13]) (.region f593r4 [2, 3, 4, 5, 6, 7])) (.block 1 (.seq (.seq (.region f593r5 [2, 3, 4, 5, 6, 7, 16]) (.cond (.t 16) (.seq (.region f593r6 [4]) .ret) .skip)) (.seq (.seq (.region f593r7 [2, 4, 5, 7, 8]) (.seq (.region f593r8 [2, 4, 5, 7, 8, 25]) (.cond (.t 25) (.seq (.dregion f593r9 [] [] [2, 4, 5, 9]) (.seq (.dregion f593r10 [] [(0, [1])] [4, 5]) (.seq (.region f593r11 [4]) .ret))) .skip))) (.region f593r12 [])))) [2, 3, 4, 5, 11]))) (.seq (.region f593r13 [4]) .ret)))), false⟩

/-! quire/quirelaw01.whole -/
@[simp] def f594r0 : List ROper := [
  ⟨some 2, .mv (.c (.str [])), none⟩]
@[simp] def f594r1 : List ROper := [
  ⟨some 6, .mv (.t 0), none⟩,
  ⟨some 7, .mv (.t 0), none⟩,
  ⟨some 8, .call 601 [(.t 7)], none⟩,
  ⟨some 9, .call 578 [(.t 6), (.c (.int .i64 (.ofNat 0))), (.t 8)], none⟩,
  ⟨some 5, .mv (.t 9), none⟩,
  ⟨some 10, .extract (.t 5) 0, none⟩,
  ⟨some 11, .extract (.t 5) 1, none⟩,
  ⟨some 3, .mv (.t 10), none⟩,
  ⟨some 4, .mv (.t 11), none⟩]
@[simp] def f594r2 : List ROper := [
  ⟨some 12, .mv (.t 3), none⟩,
  ⟨some 2, .mv (.t 12), none⟩]
def f594 : RFunc := ⟨[.t 2], (.seq (.region f594r0 [0]) (.seq (.region f594r1 [3]) (.seq (.region f594r2 [2]) .ret))), false⟩

/-! (*quire/piece.Text).Pieces -/
@[simp] def f595r0 : List ROper := [
  ⟨some 2, .mv (.c (.int .i64 (.ofNat 0))), none⟩]
@[simp] def f595r1 : List ROper := [
  ⟨some 3, .mv (.t 0), none⟩,
  ⟨some 4, .call 587 [(.t 3)], none⟩]
@[simp] def f595r2 : List ROper := [
  ⟨some 2, .mv (.c (.int .i64 (.ofNat 0))), none⟩]
@[simp] def f595r3 : List ROper := [
  ⟨some 5, .mv (.t 0), none⟩,
  ⟨some 6, .nilchk (.t 5), none⟩,
  ⟨some 7, .faddr 1 (.t 6), none⟩,
  ⟨some 8, .load 1 false (.t 7), none⟩,
  ⟨some 9, .len .slice (.t 8), none⟩,
  ⟨some 2, .mv (.t 9), none⟩]
def f595 : RFunc := ⟨[.t 2], (.seq (.region f595r0 [0]) (.seq (.seq (.region f595r1 [0, 4]) (.cond (.t 4) (.seq (.region f595r2 [2]) .ret) .skip)) (.seq (.region f595r3 [2]) .ret))), false⟩

/-! quire/piece.may -/
@[simp] def f596r0 : List ROper := [
  ⟨some 2, .mv (.c (.bool false)), none⟩]
@[simp] def f596r1 : List ROper := [
  ⟨some 3, .mv (.t 0), none⟩]
@[simp] def f596r2 : List ROper := [
  ⟨some 5, .bin .eql (.t 3) (.c (.int .u8 (.ofNat 1))), none⟩,
  ⟨some 4, .mv (.t 5), none⟩]
@[simp] def f596r3 : List ROper := [
  ⟨some 6, .bin .eql (.t 3) (.c (.int .u8 (.ofNat 2))), none⟩,
  ⟨some 4, .mv (.t 6), none⟩]
@[simp] def f596r4 : List ROper := [
  ⟨some 7, .bin .eql (.t 3) (.c (.int .u8 (.ofNat 3))), none⟩,
  ⟨some 4, .mv (.t 7), none⟩]
@[simp] def f596r5 : List ROper := [
  ⟨some 8, .bin .eql (.t 3) (.c (.int .u8 (.ofNat 4))), none⟩,
  ⟨some 4, .mv (.t 8), none⟩]
@[simp] def f596r6 : List ROper := [
  ⟨some 9, .bin .eql (.t 3) (.c (.int .u8 (.ofNat 9))), none⟩,
  ⟨some 4, .mv (.t 9), none⟩]
@[simp] def f596r7 : List ROper := [
  ⟨some 10, .bin .eql (.t 3) (.c (.int .u8 (.ofNat 10))), none⟩,
  ⟨some 4, .mv (.t 10), none⟩]
@[simp] def f596r8 : List ROper := [
  ⟨some 11, .bin .eql (.t 3) (.c (.int .u8 (.ofNat 31))), none⟩,
  ⟨some 4, .mv (.t 11), none⟩]
@[simp] def f596r9 : List ROper := [
  ⟨some 2, .mv (.c (.bool true)), none⟩]
@[simp] def f596r10 : List ROper := [
  ⟨some 12, .mv (.t 0), none⟩,
  ⟨some 13, .bin .geq (.t 12) (.c (.int .u8 (.ofNat 32))), none⟩,
  ⟨some 14, .mv (.t 13), none⟩,
  ⟨some 15, .mv (.t 0), some (14, true)⟩,
  ⟨some 16, .bin .leq (.t 15) (.c (.int .u8 (.ofNat 126))), some (14, true)⟩,
  ⟨some 17, .pick (.t 14) (.t 16) (.c (.bool false)), none⟩,
  ⟨some 2, .mv (.t 17), none⟩]
def f596 : RFunc := ⟨[.t 2], (.seq (.region f596r0 [0]) (.seq (.seq (.region f596r1 [0, 3]) (.block 0 (.seq (.seq (.region f596r2 [0, 3, 4]) (.cond (.t 4) .skip (.seq (.region f596r3 [0, 3, 4]) (.cond (.t 4) .skip (.seq (.region f596r4 [0, 3, 4]) (.cond (.t 4) .skip (.seq (.region f596r5 [0, 3, 4]) (.cond (.t 4) .skip (.seq (.region f596r6 [0, 3, 4]) (.cond (.t 4) .skip (.seq (.region f596r7 [0, 3, 4]) (.cond (.t 4) .skip (.region f596r8 [0, 4]))))))))))))) (.cond (.t 4) (.seq (.region f596r9 [2]) .ret) .skip)))) (.seq (.region f596r10 [2]) .ret))), true⟩

/-! math/bits.Mul32 -/
@[simp] def f597r0 : List ROper := [
  ⟨some 4, .mv (.c (.int .u32 (.ofNat 0))), none⟩,
  ⟨some 5, .mv (.c (.int .u32 (.ofNat 0))), none⟩]
@[simp] def f597r1 : List ROper := [
  ⟨some 7, .mv (.t 0), none⟩,
  ⟨some 8, .i2i .u64 (.t 7), none⟩,
  ⟨some 9, .mv (.t 1), none⟩,
  ⟨some 10, .i2i .u64 (.t 9), none⟩,
  ⟨some 11, .bin .mul (.t 8) (.t 10), none⟩,
  ⟨some 6, .mv (.t 11), none⟩]
@[simp] def f597r2 : List ROper := [
  ⟨some 12, .mv (.t 6), none⟩,
  ⟨some 13, .bin .shr (.t 12) (.c (.int .u64 (.ofNat 32))), none⟩,
  ⟨some 14, .i2i .u32 (.t 13), none⟩,
  ⟨some 15, .mv (.t 6), none⟩,
  ⟨some 16, .i2i .u32 (.t 15), none⟩,
  ⟨some 4, .mv (.t 14), none⟩,
  ⟨some 5, .mv (.t 16), none⟩]
def f597 : RFunc := ⟨[.t 4, .t 5], (.seq (.region f597r0 [0, 1]) (.seq (.region f597r1 [6]) (.seq (.region f597r2 [4, 5]) .ret))), true⟩

/-! math/bits.Mul64 -/
@[simp] def f598r0 : List ROper := [
  ⟨some 4, .mv (.c (.int .u64 (.ofNat 0))), none⟩,
  ⟨some 5, .mv (.c (.int .u64 (.ofNat 0))), none⟩]
@[simp] def f598r1 : List ROper := [
  ⟨some 14, .mv (.t 0), none⟩,
  ⟨some 15, .bin .and (.t 14) (.c (.int .u64 (.ofNat 4294967295))), none⟩,
  ⟨some 6, .mv (.t 15), none⟩]
@[simp] def f598r2 : List ROper := [
  ⟨some 16, .mv (.t 0), none⟩,
  ⟨some 17, .bin .shr (.t 16) (.c (.int .u64 (.ofNat 32))), none⟩,
  ⟨some 7, .mv (.t 17), none⟩]
@[simp] def f598r3 : List ROper := [
  ⟨some 18, .mv (.t 1), none⟩,
  ⟨some 19, .bin .and (.t 18) (.c (.int .u64 (.ofNat 4294967295))), none⟩,
  ⟨some 8, .mv (.t 19), none⟩]
@[simp] def f598r4 : List ROper := [
  ⟨some 20, .mv (.t 1), none⟩,
  ⟨some 21, .bin .shr (.t 20) (.c (.int .u64 (.ofNat 32))), none⟩,
  ⟨some 9, .mv (.t 21), none⟩]
@[simp] def f598r5 : List ROper := [
  ⟨some 22, .mv (.t 6), none⟩,
  ⟨some 23, .mv (.t 8), none⟩,
  ⟨some 24, .bin .mul (.t 22) (.t 23), none⟩,
  ⟨some 10, .mv (.t 24), none⟩]
@[simp] def f598r6 : List ROper := [
  ⟨some 25, .mv (.t 7), none⟩,
  ⟨some 26, .mv (.t 8), none⟩,
  ⟨some 27, .bin .mul (.t 25) (.t 26), none⟩,
  ⟨some 28, .mv (.t 10), none⟩,
  ⟨some 29, .bin .shr (.t 28) (.c (.int .u64 (.ofNat 32))), none⟩,
  ⟨some 30, .bin .add (.t 27) (.t 29), none⟩,
  ⟨some 11, .mv (.t 30), none⟩]
@[simp] def f598r7 : List ROper := [
  ⟨some 31, .mv (.t 11), none⟩,
  ⟨some 32, .bin .and (.t 31) (.c (.int .u64 (.ofNat 4294967295))), none⟩,
  ⟨some 12, .mv (.t 32), none⟩]
@[simp] def f598r8 : List ROper := [
  ⟨some 33, .mv (.t 11), none⟩,
  ⟨some 34, .bin .shr (.t 33) (.c (.int .u64 (.ofNat 32))), none⟩,
  ⟨some 13, .mv (.t 34), none⟩]
@[simp] def f598r9 : List ROper := [
  ⟨some 35, .mv (.t 12), none⟩,
  ⟨some 36, .mv (.t 6), none⟩,
  ⟨some 37, .mv (.t 9), none⟩,
  ⟨some 38, .bin .mul (.t 36) (.t 37), none⟩,
  ⟨some 39, .bin .add (.t 35) (.t 38), none⟩,
  ⟨some 12, .mv (.t 39), none⟩]
@[simp] def f598r10 : List ROper := [
  ⟨some 40, .mv (.t 7), none⟩,
  ⟨some 41, .mv (.t 9), none⟩,
  ⟨some 42, .bin .mul (.t 40) (.t 41), none⟩,
  ⟨some 43, .mv (.t 13), none⟩,
  ⟨some 44, .bin .add (.t 42) (.t 43), none⟩,
  ⟨some 45, .mv (.t 12), none⟩,
  ⟨some 46, .bin .shr (.t 45) (.c (.int .u64 (.ofNat 32))), none⟩,
  ⟨some 47, .bin .add (.t 44) (.t 46), none⟩,
  ⟨some 4, .mv (.t 47), none⟩]
@[simp] def f598r11 : List ROper := [
  ⟨some 48, .mv (.t 0), none⟩,
  ⟨some 49, .mv (.t 1), none⟩,
  ⟨some 50, .bin .mul (.t 48) (.t 49), none⟩,
  ⟨some 5, .mv (.t 50), none⟩]
def f598 : RFunc := ⟨[.t 4, .t 5], (.seq (.region f598r0 [0, 1]) (.seq (.region f598r1 [0, 1, 6]) (.seq (.region f598r2 [0, 1, 6, 7]) (.seq (.region f598r3 [0, 1, 6, 7, 8]) (.seq (.region f598r4 [0, 1, 6, 7, 8, 9]) (.seq (.region f598r5 [0, 1, 6, 7, 8, 9, 10]) (.seq (.region f598r6 [0, 1, 6, 7, 9, 11]) (.seq (.region f598r7 [0, 1, 6, 7, 9, 11, 12]) (.seq (.region f598r8 [0, 1, 6, 7, 9, 12, 13]) (.seq (.region f598r9 [0, 1, 7, 9, 12, 13]) (.seq (.region f598r10 [0, 1, 4]) (.seq (.region f598r11 [4, 5]) .ret)))))))))))), true⟩

/-! internal/stringslite.HasPrefix -/
@[simp] def f599r0 : List ROper := [
  ⟨some 4, .mv (.c (.bool false)), none⟩]
@[simp] def f599r1 : List ROper := [
  ⟨some 5, .mv (.t 0), none⟩,
  ⟨some 6, .len .str (.t 5), none⟩,
  ⟨some 7, .mv (.t 1), none⟩,
  ⟨some 8, .len .str (.t 7), none⟩,
  ⟨some 9, .bin .geq (.t 6) (.t 8), none⟩,
  ⟨some 10, .mv (.t 9), none⟩,
  ⟨some 11, .mv (.t 0), some (10, true)⟩,
  ⟨some 12, .mv (.t 1), some (10, true)⟩,
  ⟨some 13, .len .str (.t 12), some (10, true)⟩,
  ⟨some 14, .slice true 1 (.t 11) none (some (.t 13)) none, some (10, true)⟩,
  ⟨some 15, .mv (.t 1), some (10, true)⟩,
  ⟨some 16, .bin .eql (.t 14) (.t 15), some (10, true)⟩,
  ⟨some 17, .pick (.t 10) (.t 16) (.c (.bool false)), none⟩,
  ⟨some 4, .mv (.t 17), none⟩]
def f599 : RFunc := ⟨[.t 4], (.seq (.region f599r0 [0, 1]) (.seq (.region f599r1 [4]) .ret)), true⟩

/-! (*strings.Builder).grow -/
@[simp] def f600r0 : List ROper := [
  ⟨some 5, .mv (.t 0), none⟩,
  ⟨some 6, .nilchk (.t 5), none⟩,
  ⟨some 7, .faddr 1 (.t 6), none⟩,
  ⟨some 8, .load 1 false (.t 7), none⟩,
  ⟨some 9, .cap (.t 8), none⟩,
  ⟨some 10, .bin .mul (.c (.int .i64 (.ofNat 2))) (.t 9), none⟩,
  ⟨some 11, .mv (.t 1), none⟩,
  ⟨some 12, .bin .add (.t 10) (.t 11), none⟩,
  ⟨some 13, .call 602 [(.t 12)], none⟩,
  ⟨some 14, .mv (.t 0), none⟩,
  ⟨some 15, .nilchk (.t 14), none⟩,
  ⟨some 16, .faddr 1 (.t 15), none⟩,
  ⟨some 17, .load 1 false (.t 16), none⟩,
  ⟨some 18, .len .slice (.t 17), none⟩,
  ⟨some 19, .slice false 1 (.t 13) none (some (.t 18)) none, none⟩,
  ⟨some 4, .mv (.t 19), none⟩]
@[simp] def f600r1 : List ROper := [
  ⟨some 20, .mv (.t 4), none⟩,
  ⟨some 21, .mv (.t 0), none⟩,
  ⟨some 22, .nilchk (.t 21), none⟩,
  ⟨some 23, .faddr 1 (.t 22), none⟩,
  ⟨some 24, .load 1 false (.t 23), none⟩,
  ⟨some 25, .copy 1 (.t 20) (.t 24), none⟩]
@[simp] def f600r2 : List ROper := [
  ⟨some 26, .mv (.t 0), none⟩,
  ⟨some 27, .mv (.t 4), none⟩,
  ⟨some 28, .nilchk (.t 26), none⟩,
  ⟨some 29, .faddr 1 (.t 28), none⟩,
  ⟨none, .store 1 (.t 29) (.t 27), none⟩]
def f600 : RFunc := ⟨[], (.seq (.dregion f600r0 [] [(12, [0]), (13, [0])] [0, 4]) (.seq (.region f600r1 [0, 4]) (.region f600r2 []))), false⟩

/-! (*quire/piece.Text).Len -/
@[simp] def f601r0 : List ROper := [
  ⟨some 2, .mv (.c (.int .i64 (.ofNat 0))), none⟩]
@[simp] def f601r1 : List ROper := [
  ⟨some 3, .mv (.t 0), none⟩,
  ⟨some 4, .call 587 [(.t 3)], none⟩]
@[simp] def f601r2 : List ROper := [
  ⟨some 2, .mv (.c (.int .i64 (.ofNat 0))), none⟩]
@[simp] def f601r3 : List ROper := [
  ⟨some 5, .mv (.t 0), none⟩,
  ⟨some 6, .nilchk (.t 5), none⟩,
  ⟨some 7, .faddr 2 (.t 6), none⟩,
  ⟨some 8, .load 1 false (.t 7), none⟩,
  ⟨some 2, .mv (.t 8), none⟩]
def f601 : RFunc := ⟨[.t 2], (.seq (.region f601r0 [0]) (.seq (.seq (.region f601r1 [0, 4]) (.cond (.t 4) (.seq (.region f601r2 [2]) .ret) .skip)) (.seq (.region f601r3 [2]) .ret))), false⟩

/-! quire/quirelaw01.PieceBack -/
@[simp] def f624r0 : List ROper := [
  ⟨some 8, .mv (.c (.bool false)), none⟩]
@[simp] def f624r1 : List ROper := [
  ⟨some 18, .call 583 [], none⟩,
  ⟨some 9, .mv (.t 18), none⟩]
@[simp] def f624r2 : List ROper := [
  ⟨some 20, .mv (.t 0), none⟩,
  ⟨some 21, .call 577 [(.t 20)], none⟩,
  ⟨some 19, .mv (.t 21), none⟩,
  ⟨some 22, .extract (.t 19) 0, none⟩,
  ⟨some 23, .extract (.t 19) 1, none⟩,
  ⟨some 10, .mv (.t 22), none⟩,
  ⟨some 11, .mv (.t 23), none⟩]
@[simp] def f624r3 : List ROper := [
  ⟨some 24, .mv (.t 10), none⟩,
  ⟨some 25, .eq .ptr false (.t 24) (.c .nilp), none⟩,
  ⟨some 26, .mv (.t 25), none⟩,
  ⟨some 27, .mv (.t 1), some (26, false)⟩,
  ⟨some 28, .len .slice (.t 27), some (26, false)⟩,
  ⟨some 29, .bin .gtr (.t 28) (.c (.int .i64 (.ofNat 40))), some (26, false)⟩,
  ⟨some 30, .pick (.t 26) (.c (.bool true)) (.t 29), none⟩]
@[simp] def f624r4 : List ROper := [
  ⟨some 31, .mv (.t 9), none⟩,
  ⟨some 32, .mv (.t 31), none⟩,
  ⟨some 33, .mv (.t 10), some (32, true)⟩,
  ⟨some 34, .eq .ptr true (.t 33) (.c .nilp), some (32, true)⟩,
  ⟨some 35, .mv (.t 34), some (32, true)⟩,
  ⟨some 36, .mv (.t 11), some (35, false)⟩,
  ⟨some 37, .bin .eql (.t 36) (.c (.int .i64 (.ofNat 4))), some (35, false)⟩,
  ⟨some 38, .pick (.t 35) (.c (.bool true)) (.t 37), some (32, true)⟩,
  ⟨some 39, .mv (.t 38), some (32, true)⟩,
  ⟨some 40, .mv (.t 11), some (39, false)⟩,
  ⟨some 41, .bin .eql (.t 40) (.c (.int .i64 (.ofNat 8))), some (39, false)⟩,
  ⟨some 42, .pick (.t 39) (.c (.bool true)) (.t 41), some (32, true)⟩,
  ⟨some 43, .pick (.t 32) (.t 42) (.c (.bool false)), none⟩,
  ⟨some 8, .mv (.t 43), none⟩]
@[simp] def f624r5 : List ROper := [
  ⟨some 12, .mv (.c (.int .i64 (.ofNat 0))), none⟩]
@[simp] def f624r6 : List ROper := [
  ⟨some 44, .mv (.t 12), none⟩,
  ⟨some 45, .mv (.t 1), none⟩,
  ⟨some 46, .len .slice (.t 45), none⟩,
  ⟨some 47, .bin .lss (.t 44) (.t 46), none⟩]
@[simp] def f624r7 : List ROper := [
  ⟨some 50, .mv (.t 10), none⟩,
  ⟨some 51, .call 595 [(.t 50)], none⟩,
  ⟨some 13, .mv (.t 51), none⟩]
@[simp] def f624r8 : List ROper := [
  ⟨some 52, .mv (.t 1), none⟩,
  ⟨some 53, .mv (.t 12), none⟩,
  ⟨some 54, .iaddr 5 (.t 52) (.t 53), none⟩,
  ⟨some 55, .faddr 0 (.t 54), none⟩,
  ⟨some 56, .load 1 false (.t 55), none⟩,
  ⟨some 57, .bin .eql (.t 56) (.c (.int .i64 (.ofNat 0))), none⟩]
@[simp] def f624r9 : List ROper := [
  ⟨some 58, .mv (.t 10), none⟩,
  ⟨some 59, .mv (.t 1), none⟩,
  ⟨some 60, .mv (.t 12), none⟩,
  ⟨some 61, .iaddr 5 (.t 59) (.t 60), none⟩,
  ⟨some 62, .faddr 1 (.t 61), none⟩,
  ⟨some 63, .load 1 false (.t 62), none⟩,
  ⟨some 64, .mv (.t 1), none⟩,
  ⟨some 65, .mv (.t 12), none⟩,
  ⟨some 66, .iaddr 5 (.t 64) (.t 65), none⟩,
  ⟨some 67, .faddr 3 (.t 66), none⟩,
  ⟨some 68, .load 1 false (.t 67), none⟩,
  ⟨some 69, .call 581 [(.t 58), (.t 63), (.t 68)], none⟩]
@[simp] def f624r10 : List ROper := [
  ⟨some 70, .mv (.t 10), none⟩,
  ⟨some 71, .mv (.t 1), none⟩,
  ⟨some 72, .mv (.t 12), none⟩,
  ⟨some 73, .iaddr 5 (.t 71) (.t 72), none⟩,
  ⟨some 74, .faddr 1 (.t 73), none⟩,
  ⟨some 75, .load 1 false (.t 74), none⟩,
  ⟨some 76, .mv (.t 1), none⟩,
  ⟨some 77, .mv (.t 12), none⟩,
  ⟨some 78, .iaddr 5 (.t 76) (.t 77), none⟩,
  ⟨some 79, .faddr 2 (.t 78), none⟩,
  ⟨some 80, .load 1 false (.t 79), none⟩,
  ⟨some 81, .call 582 [(.t 70), (.t 75), (.t 80)], none⟩]
@[simp] def f624r11 : List ROper := [
  ⟨some 82, .mv (.t 10), none⟩,
  ⟨some 83, .call 595 [(.t 82)], none⟩,
  ⟨some 84, .mv (.t 13), none⟩,
  ⟨some 85, .bin .add (.t 84) (.c (.int .i64 (.ofNat 2))), none⟩,
  ⟨some 86, .bin .gtr (.t 83) (.t 85), none⟩,
  ⟨some 87, .mv (.t 86), none⟩,
  ⟨some 88, .mv (.t 10), some (87, false)⟩,
  ⟨some 89, .call 595 [(.t 88)], some (87, false)⟩,
  ⟨some 90, .mv (.t 10), some (87, false)⟩,
  ⟨some 91, .call 601 [(.t 90)], some (87, false)⟩,
  ⟨some 92, .bin .gtr (.t 89) (.t 91), some (87, false)⟩,
  ⟨some 93, .pick (.t 87) (.c (.bool true)) (.t 92), none⟩]
@[simp] def f624r12 : List ROper := [
  ⟨some 8, .mv (.c (.bool false)), none⟩]
@[simp] def f624r13 : List ROper := [
  ⟨some 48, .mv (.t 12), none⟩,
  ⟨some 49, .bin .add (.t 48) (.c (.int .i64 (.ofNat 1))), none⟩,
  ⟨some 12, .mv (.t 49), none⟩]
def f624B0 : RC := (.seq (.seq (.region f624r6 [1, 2, 3, 9, 10, 12, 47]) (.cond (.t 47) .skip (.exit 0))) (.seq (.block 1 (.seq (.region f624r7 [1, 2, 3, 9, 10, 12, 13]) (.seq (.seq (.region f624r8 [1, 2, 3, 9, 10, 12, 13, 57]) (.cond (.t 57) (.dregion f624r9 [] [] [1, 2, 3, 9, 10, 12, 13]) (.dregion f624r10 [] [] [1, 2, 3, 9, 10, 12, 13]))) (.seq (.region f624r11 [1, 2, 3, 9, 10, 12, 93]) (.cond (.t 93) (.seq (.region f624r12 [8]) .ret) .skip))))) (.region f624r13 [1, 2, 3, 9, 10, 12])))
def f624L0 : RC := .loop [1, 2, 3, 9, 10, 12] f624B0
@[simp] def f624r14 : List ROper := [
  ⟨some 94, .mv (.t 10), none⟩,
  ⟨some 95, .call 594 [(.t 94)], none⟩,
  ⟨some 14, .mv (.t 95), none⟩]
@[simp] def f624r15 : List ROper := [
  ⟨some 96, .mv (.t 10), none⟩,
  ⟨some 97, .mv (.t 2), none⟩,
  ⟨some 98, .mv (.t 3), none⟩,
  ⟨some 99, .call 581 [(.t 96), (.t 97), (.t 98)], none⟩,
  ⟨some 15, .mv (.t 99), none⟩]
@[simp] def f624r16 : List ROper := [
  ⟨some 100, .mv (.t 15), none⟩,
  ⟨some 101, .bin .neq (.t 100) (.c (.int .i64 (.ofNat 0))), none⟩]
@[simp] def f624r17 : List ROper := [
  ⟨some 102, .mv (.t 9), none⟩,
  ⟨some 103, .mv (.t 102), none⟩,
  ⟨some 104, .mv (.t 10), some (103, true)⟩,
  ⟨some 105, .call 594 [(.t 104)], some (103, true)⟩,
  ⟨some 106, .mv (.t 14), some (103, true)⟩,
  ⟨some 107, .bin .eql (.t 105) (.t 106), some (103, true)⟩,
  ⟨some 108, .pick (.t 103) (.t 107) (.c (.bool false)), none⟩,
  ⟨some 8, .mv (.t 108), none⟩]
@[simp] def f624r18 : List ROper := [
  ⟨some 109, .mv (.t 2), none⟩,
  ⟨some 110, .bin .lss (.t 109) (.c (.int .i64 (.ofNat 0))), none⟩,
  ⟨some 111, .mv (.t 110), none⟩,
  ⟨some 112, .mv (.t 2), some (111, false)⟩,
  ⟨some 113, .mv (.t 14), some (111, false)⟩,
  ⟨some 114, .len .str (.t 113), some (111, false)⟩,
  ⟨some 115, .bin .gtr (.t 112) (.t 114), some (111, false)⟩,
  ⟨some 116, .pick (.t 111) (.c (.bool true)) (.t 115), none⟩,
  ⟨some 117, .mv (.t 116), none⟩,
  ⟨some 118, .mv (.t 10), some (117, false)⟩,
  ⟨some 119, .call 594 [(.t 118)], some (117, false)⟩,
  ⟨some 120, .mv (.t 14), some (117, false)⟩,
  ⟨some 121, .mv (.t 2), some (117, false)⟩,
  ⟨some 122, .slice true 1 (.t 120) none (some (.t 121)) none, some (117, false)⟩,
  ⟨some 123, .mv (.t 3), some (117, false)⟩,
  ⟨some 124, .bin .add (.t 122) (.t 123), some (117, false)⟩,
  ⟨some 125, .mv (.t 14), some (117, false)⟩,
  ⟨some 126, .mv (.t 2), some (117, false)⟩,
  ⟨some 127, .slice true 1 (.t 125) (some (.t 126)) none none, some (117, false)⟩,
  ⟨some 128, .bin .add (.t 124) (.t 127), some (117, false)⟩,
  ⟨some 129, .bin .neq (.t 119) (.t 128), some (117, false)⟩,
  ⟨some 130, .pick (.t 117) (.c (.bool true)) (.t 129), none⟩]
@[simp] def f624r19 : List ROper := [
  ⟨some 8, .mv (.c (.bool false)), none⟩]
@[simp] def f624r20 : List ROper := [
  ⟨some 132, .mv (.t 10), none⟩,
  ⟨some 133, .mv (.t 2), none⟩,
  ⟨some 134, .mv (.t 2), none⟩,
  ⟨some 135, .mv (.t 3), none⟩,
  ⟨some 136, .len .str (.t 135), none⟩,
  ⟨some 137, .bin .add (.t 134) (.t 136), none⟩,
  ⟨some 138, .call 578 [(.t 132), (.t 133), (.t 137)], none⟩,
  ⟨some 131, .mv (.t 138), none⟩,
  ⟨some 139, .extract (.t 131) 0, none⟩,
  ⟨some 140, .extract (.t 131) 1, none⟩,
  ⟨some 16, .mv (.t 139), none⟩,
  ⟨some 17, .mv (.t 140), none⟩]
@[simp] def f624r21 : List ROper := [
  ⟨some 141, .mv (.t 9), none⟩,
  ⟨some 142, .mv (.t 141), none⟩,
  ⟨some 143, .mv (.t 16), some (142, true)⟩,
  ⟨some 144, .mv (.t 3), some (142, true)⟩,
  ⟨some 145, .bin .eql (.t 143) (.t 144), some (142, true)⟩,
  ⟨some 146, .pick (.t 142) (.t 145) (.c (.bool false)), none⟩,
  ⟨some 147, .mv (.t 146), none⟩,
  ⟨some 148, .mv (.t 17), some (147, true)⟩,
  ⟨some 149, .bin .eql (.t 148) (.c (.int .i64 (.ofNat 0))), some (147, true)⟩,
  ⟨some 150, .pick (.t 147) (.t 149) (.c (.bool false)), none⟩,
  ⟨some 151, .mv (.t 150), none⟩,
  ⟨some 152, .mv (.t 10), some (151, true)⟩,
  ⟨some 153, .mv (.t 2), some (151, true)⟩,
  ⟨some 154, .mv (.t 3), some (151, true)⟩,
  ⟨some 155, .len .str (.t 154), some (151, true)⟩,
  ⟨some 156, .call 582 [(.t 152), (.t 153), (.t 155)], some (151, true)⟩,
  ⟨some 157, .bin .eql (.t 156) (.c (.int .i64 (.ofNat 0))), some (151, true)⟩,
  ⟨some 158, .pick (.t 151) (.t 157) (.c (.bool false)), none⟩,
  ⟨some 159, .mv (.t 158), none⟩,
  ⟨some 160, .mv (.t 10), some (159, true)⟩,
  ⟨some 161, .call 594 [(.t 160)], some (159, true)⟩,
  ⟨some 162, .mv (.t 14), some (159, true)⟩,
  ⟨some 163, .bin .eql (.t 161) (.t 162), some (159, true)⟩,
  ⟨some 164, .pick (.t 159) (.t 163) (.c (.bool false)), none⟩,
  ⟨some 8, .mv (.t 164), none⟩]
def f624 : RFunc := ⟨[.t 8], (.seq (.region f624r0 [0, 1, 2, 3]) (.seq (.region f624r1 [0, 1, 2, 3, 9]) (.seq (.region f624r2 [1, 2, 3, 9, 10, 11]) (.seq (.seq (.region f624r3 [1, 2, 3, 9, 10, 11, 30]) (.cond (.t 30) (.seq (.region f624r4 [8]) .ret) .skip)) (.seq (.seq (.region f624r5 [1, 2, 3, 9, 10, 12]) (.block 0 f624L0)) (.seq (.region f624r14 [2, 3, 9, 10, 14]) (.seq (.region f624r15 [2, 3, 9, 10, 14, 15]) (.seq (.seq (.region f624r16 [2, 3, 9, 10, 14, 101]) (.cond (.t 101) (.seq (.region f624r17 [8]) .ret) .skip)) (.seq (.seq (.dregion f624r18 [] [] [2, 3, 9, 10, 14, 130]) (.cond (.t 130) (.seq (.region f624r19 [8]) .ret) .skip)) (.seq (.region f624r20 [2, 3, 9, 10, 14, 16, 17]) (.seq (.region f624r21 [8]) .ret))))))))))), true⟩

/-! quire/quirelaw01.PieceFull -/
@[simp] def f625r0 : List ROper := [
  ⟨some 6, .mv (.c (.bool false)), none⟩]
@[simp] def f625r1 : List ROper := [
  ⟨some 11, .call 583 [], none⟩,
  ⟨some 7, .mv (.t 11), none⟩]
@[simp] def f625r2 : List ROper := [
  ⟨some 12, .mv (.t 0), none⟩,
  ⟨some 13, .bin .lss (.t 12) (.c (.int .i64 (.ofNat 0))), none⟩,
  ⟨some 14, .mv (.t 13), none⟩,
  ⟨some 15, .mv (.t 0), some (14, false)⟩,
  ⟨some 16, .bin .gtr (.t 15) (.c (.int .i64 (.ofNat 4096))), some (14, false)⟩,
  ⟨some 17, .pick (.t 14) (.c (.bool true)) (.t 16), none⟩,
  ⟨some 18, .mv (.t 17), none⟩,
  ⟨some 19, .mv (.t 2), some (18, false)⟩,
  ⟨some 20, .bin .lss (.t 19) (.c (.int .i64 (.ofNat 0))), some (18, false)⟩,
  ⟨some 21, .pick (.t 18) (.c (.bool true)) (.t 20), none⟩,
  ⟨some 22, .mv (.t 21), none⟩,
  ⟨some 23, .mv (.t 2), some (22, false)⟩,
  ⟨some 24, .bin .gtr (.t 23) (.c (.int .i64 (.ofNat 5000))), some (22, false)⟩,
  ⟨some 25, .pick (.t 22) (.c (.bool true)) (.t 24), none⟩]
@[simp] def f625r3 : List ROper := [
  ⟨some 26, .mv (.t 7), none⟩,
  ⟨some 6, .mv (.t 26), none⟩]
@[simp] def f625r4 : List ROper := [
  ⟨some 28, .mv (.t 0), none⟩,
  ⟨some 29, .call 580 [(.c (.str [97])), (.t 28)], none⟩,
  ⟨some 30, .call 577 [(.t 29)], none⟩,
  ⟨some 27, .mv (.t 30), none⟩,
  ⟨some 31, .extract (.t 27) 0, none⟩,
  ⟨some 32, .extract (.t 27) 1, none⟩,
  ⟨some 8, .mv (.t 31), none⟩,
  ⟨some 9, .mv (.t 32), none⟩]
@[simp] def f625r5 : List ROper := [
  ⟨some 33, .mv (.t 8), none⟩,
  ⟨some 34, .eq .ptr false (.t 33) (.c .nilp), none⟩,
  ⟨some 35, .mv (.t 34), none⟩,
  ⟨some 36, .mv (.t 9), some (35, false)⟩,
  ⟨some 37, .bin .neq (.t 36) (.c (.int .i64 (.ofNat 0))), some (35, false)⟩,
  ⟨some 38, .pick (.t 35) (.c (.bool true)) (.t 37), none⟩]
@[simp] def f625r6 : List ROper := [
  ⟨some 6, .mv (.c (.bool false)), none⟩]
@[simp] def f625r7 : List ROper := [
  ⟨some 10, .mv (.c (.int .i64 (.ofNat 0))), none⟩]
@[simp] def f625r8 : List ROper := [
  ⟨some 40, .mv (.t 1), none⟩,
  ⟨some 41, .bin .lss (.t 40) (.c (.int .i64 (.ofNat 0))), none⟩,
  ⟨some 42, .mv (.t 41), none⟩,
  ⟨some 43, .mv (.t 1), some (42, false)⟩,
  ⟨some 44, .mv (.t 0), some (42, false)⟩,
  ⟨some 45, .bin .gtr (.t 43) (.t 44), some (42, false)⟩,
  ⟨some 46, .pick (.t 42) (.c (.bool true)) (.t 45), none⟩,
  ⟨some 39, .mv (.t 46), none⟩]
@[simp] def f625r9 : List ROper := [
  ⟨some 10, .mv (.c (.int .i64 (.ofNat 5))), none⟩]
@[simp] def f625r10 : List ROper := [
  ⟨some 48, .mv (.t 0), none⟩,
  ⟨some 49, .mv (.t 2), none⟩,
  ⟨some 50, .bin .add (.t 48) (.t 49), none⟩,
  ⟨some 51, .bin .gtr (.t 50) (.c (.int .i64 (.ofNat 4096))), none⟩,
  ⟨some 47, .mv (.t 51), none⟩]
@[simp] def f625r11 : List ROper := [
  ⟨some 10, .mv (.c (.int .i64 (.ofNat 8))), none⟩]
@[simp] def f625r12 : List ROper := [
  ⟨some 52, .mv (.t 7), none⟩,
  ⟨some 53, .mv (.t 52), none⟩,
  ⟨some 54, .mv (.t 8), some (53, true)⟩,
  ⟨some 55, .mv (.t 1), some (53, true)⟩,
  ⟨some 56, .mv (.t 2), some (53, true)⟩,
  ⟨some 57, .call 580 [(.c (.str [98])), (.t 56)], some (53, true)⟩,
  ⟨some 58, .call 581 [(.t 54), (.t 55), (.t 57)], some (53, true)⟩,
  ⟨some 59, .mv (.t 10), some (53, true)⟩,
  ⟨some 60, .bin .eql (.t 58) (.t 59), some (53, true)⟩,
  ⟨some 61, .pick (.t 53) (.t 60) (.c (.bool false)), none⟩,
  ⟨some 6, .mv (.t 61), none⟩]
def f625 : RFunc := ⟨[.t 6], (.seq (.region f625r0 [0, 1, 2]) (.seq (.region f625r1 [0, 1, 2, 7]) (.seq (.seq (.region f625r2 [0, 1, 2, 7, 25]) (.cond (.t 25) (.seq (.region f625r3 [6]) .ret) .skip)) (.seq (.region f625r4 [0, 1, 2, 7, 8, 9]) (.seq (.seq (.region f625r5 [0, 1, 2, 7, 8, 38]) (.cond (.t 38) (.seq (.region f625r6 [6]) .ret) .skip)) (.seq (.region f625r7 [0, 1, 2, 7, 8, 10]) (.seq (.block 0 (.seq (.region f625r8 [0, 1, 2, 7, 8, 10, 39]) (.cond (.t 39) (.region f625r9 [1, 2, 7, 8, 10]) (.seq (.region f625r10 [1, 2, 7, 8, 10, 47]) (.cond (.t 47) (.region f625r11 [1, 2, 7, 8, 10]) .skip))))) (.seq (.region f625r12 [6]) .ret)))))))), true⟩

def tree : TT := (.node 583 (.node 463 (.node 65 (.node 61 (.node 44 (.leaf 40 (.code f40)) (.leaf 44 (.code f44))) (.node 63 (.leaf 61 (.code f61)) (.node 64 (.leaf 63 (.code f63)) (.leaf 64 (.prim countByteD))))) (.node 76 (.node 72 (.leaf 65 (.code f65)) (.node 73 (.leaf 72 (.prim indexByteD)) (.leaf 73 (.code f73)))) (.node 77 (.leaf 76 (.code f76)) (.node 78 (.leaf 77 (.code f77)) (.leaf 78 (.code f78)))))) (.node 577 (.node 472 (.node 465 (.leaf 463 (.code f463)) (.leaf 465 (.code f465))) (.node 478 (.leaf 472 (.code f472)) (.node 576 (.leaf 478 (.prim noEscapeD)) (.leaf 576 (.code f576))))) (.node 580 (.node 578 (.leaf 577 (.code f577)) (.node 579 (.leaf 578 (.code f578)) (.leaf 579 (.code f579)))) (.node 581 (.leaf 580 (.code f580)) (.node 582 (.leaf 581 (.code f581)) (.leaf 582 (.code f582))))))) (.node 594 (.node 588 (.node 585 (.node 584 (.leaf 583 (.code f583)) (.leaf 584 (.code f584))) (.node 586 (.leaf 585 (.code f585)) (.node 587 (.leaf 586 (.code f586)) (.leaf 587 (.code f587))))) (.node 591 (.node 589 (.leaf 588 (.code f588)) (.node 590 (.leaf 589 (.code f589)) (.leaf 590 (.code f590)))) (.node 592 (.leaf 591 (.code f591)) (.node 593 (.leaf 592 (.code f592)) (.leaf 593 (.code f593)))))) (.node 599 (.node 596 (.node 595 (.leaf 594 (.code f594)) (.leaf 595 (.code f595))) (.node 597 (.leaf 596 (.code f596)) (.node 598 (.leaf 597 (.code f597)) (.leaf 598 (.code f598))))) (.node 602 (.node 600 (.leaf 599 (.code f599)) (.node 601 (.leaf 600 (.code f600)) (.leaf 601 (.code f601)))) (.node 624 (.leaf 602 (.prim (makeNoZeroD 5))) (.node 625 (.leaf 624 (.code f624)) (.leaf 625 (.code f625))))))))

def fms : List (Nat × FuncId) := [(64, 40), (576, 6), (65, 41), (577, 8), (578, 14), (579, 16), (580, 15), (581, 10), (582, 11), (583, 7), (72, 44), (584, 17), (73, 45), (585, 18), (586, 20), (75, 46), (587, 21), (76, 47), (588, 23), (77, 48), (589, 26), (78, 49), (590, 27), (463, 24), (591, 28), (592, 29), (465, 25), (593, 22), (594, 13), (595, 9), (596, 32), (597, 34), (598, 35), (599, 36), (472, 33), (600, 37), (601, 12), (602, 43), (478, 42), (40, 30), (44, 31), (624, 3), (625, 4), (61, 38), (63, 39)]

def env : List (Nat × List Nat) := []

end Go.D.Tab
