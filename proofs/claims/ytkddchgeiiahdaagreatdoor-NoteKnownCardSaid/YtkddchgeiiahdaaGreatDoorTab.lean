/-
The code of what the laws reach, as a table of the small language. Printed by wip/gen.
-/
import Derived.Test.YtkddchgeiiahdaaGreatDoorTab1
namespace Go.D.Tab

/-! internal/strconv.formatBits -/
def f382r0 : List ROper := [
  ⟨some 10, .mv (.c (.list 0 0 .no false [])), none⟩,
  ⟨some 11, .mv (.c (.str [])), none⟩]
def f382r1 : List ROper := [
  ⟨some 19, .mv (.t 2), none⟩,
  ⟨some 20, .bin .lss (.t 19) (.c (.int .i64 (.ofNat 2))), none⟩,
  ⟨some 21, .mv (.t 20), none⟩,
  ⟨some 22, .mv (.t 2), some (21, false)⟩,
  ⟨some 23, .bin .eql (.t 22) (.c (.int .i64 (.ofNat 10))), some (21, false)⟩,
  ⟨some 24, .pick (.t 21) (.c (.bool true)) (.t 23), none⟩,
  ⟨some 25, .mv (.t 24), none⟩,
  ⟨some 26, .mv (.t 2), some (25, false)⟩,
  ⟨some 27, .bin .gtr (.t 26) (.c (.int .i64 (.ofNat 36))), some (25, false)⟩,
  ⟨some 28, .pick (.t 25) (.c (.bool true)) (.t 27), none⟩]
def f382r2 : List ROper := [
  ⟨some 29, .iface 9 (.c (.str [115, 116, 114, 99, 111, 110, 118, 58, 32, 105, 108, 108, 101, 103, 97, 108, 32, 65, 112, 112, 101, 110, 100, 73, 110, 116, 47, 70, 111, 114, 109, 97, 116, 73, 110, 116, 32, 98, 97, 115, 101])), none⟩,
  ⟨none, .fail, none⟩]
def f382r3 : List ROper := [
  ⟨some 12, .alloc [(.int .u8 (.ofNat 0)), (.int .u8 (.ofNat 0)), (.int .u8 (.ofNat 0)), (.int .u8 (.ofNat 0)), (.int .u8 (.ofNat 0)), (.int .u8 (.ofNat 0)), (.int .u8 (.ofNat 0)), (.int .u8 (.ofNat 0)), (.int .u8 (.ofNat 0)), (.int .u8 (.ofNat 0)), (.int .u8 (.ofNat 0)), (.int .u8 (.ofNat 0)), (.int .u8 (.ofNat 0)), (.int .u8 (.ofNat 0)), (.int .u8 (.ofNat 0)), (.int .u8 (.ofNat 0)), (.int .u8 (.ofNat 0)), (.int .u8 (.ofNat 0)), (.int .u8 (.ofNat 0)), (.int .u8 (.ofNat 0)), (.int .u8 (.ofNat 0)), (.int .u8 (.ofNat 0)), (.int .u8 (.ofNat 0)), (.int .u8 (.ofNat 0)), (.int .u8 (.ofNat 0)), (.int .u8 (.ofNat 0)), (.int .u8 (.ofNat 0)), (.int .u8 (.ofNat 0)), (.int .u8 (.ofNat 0)), (.int .u8 (.ofNat 0)), (.int .u8 (.ofNat 0)), (.int .u8 (.ofNat 0)), (.int .u8 (.ofNat 0)), (.int .u8 (.ofNat 0)), (.int .u8 (.ofNat 0)), (.int .u8 (.ofNat 0)), (.int .u8 (.ofNat 0)), (.int .u8 (.ofNat 0)), (.int .u8 (.ofNat 0)), (.int .u8 (.ofNat 0)), (.int .u8 (.ofNat 0)), (.int .u8 (.ofNat 0)), (.int .u8 (.ofNat 0)), (.int .u8 (.ofNat 0)), (.int .u8 (.ofNat 0)), (.int .u8 (.ofNat 0)), (.int .u8 (.ofNat 0)), (.int .u8 (.ofNat 0)), (.int .u8 (.ofNat 0)), (.int .u8 (.ofNat 0)), (.int .u8 (.ofNat 0)), (.int .u8 (.ofNat 0)), (.int .u8 (.ofNat 0)), (.int .u8 (.ofNat 0)), (.int .u8 (.ofNat 0)), (.int .u8 (.ofNat 0)), (.int .u8 (.ofNat 0)), (.int .u8 (.ofNat 0)), (.int .u8 (.ofNat 0)), (.int .u8 (.ofNat 0)), (.int .u8 (.ofNat 0)), (.int .u8 (.ofNat 0)), (.int .u8 (.ofNat 0)), (.int .u8 (.ofNat 0)), (.int .u8 (.ofNat 0))], none⟩]
def f382r4 : List ROper := [
  ⟨some 13, .mv (.c (.int .i64 (.ofNat 65))), none⟩]
def f382r5 : List ROper := [
  ⟨some 30, .mv (.t 3), none⟩]
def f382r6 : List ROper := [
  ⟨some 31, .mv (.t 1), none⟩,
  ⟨some 32, .un .neg (.t 31), none⟩,
  ⟨some 1, .mv (.t 32), none⟩]
def f382r7 : List ROper := [
  ⟨some 33, .mv (.t 2), none⟩,
  ⟨some 34, .call 385 [(.t 33)], none⟩]
def f382r8 : List ROper := [
  ⟨some 35, .mv (.t 2), none⟩,
  ⟨some 36, .i2i .u64 (.t 35), none⟩,
  ⟨some 37, .call 386 [(.t 36)], none⟩,
  ⟨some 38, .i2i .u64 (.t 37), none⟩,
  ⟨some 14, .mv (.t 38), none⟩]
def f382r9 : List ROper := [
  ⟨some 39, .mv (.t 2), none⟩,
  ⟨some 40, .i2i .u64 (.t 39), none⟩,
  ⟨some 15, .mv (.t 40), none⟩]
def f382r10 : List ROper := [
  ⟨some 41, .mv (.t 2), none⟩,
  ⟨some 42, .i2i .u64 (.t 41), none⟩,
  ⟨some 43, .bin .sub (.t 42) (.c (.int .u64 (.ofNat 1))), none⟩,
  ⟨some 16, .mv (.t 43), none⟩]
def f382r11 : List ROper := [
  ⟨some 44, .mv (.t 1), none⟩,
  ⟨some 45, .mv (.t 15), none⟩,
  ⟨some 46, .bin .geq (.t 44) (.t 45), none⟩]
def f382r12 : List ROper := [
  ⟨some 47, .mv (.t 13), none⟩,
  ⟨some 48, .bin .sub (.t 47) (.c (.int .i64 (.ofNat 1))), none⟩,
  ⟨some 13, .mv (.t 48), none⟩]
def f382r13 : List ROper := [
  ⟨some 49, .mv (.t 13), none⟩,
  ⟨some 50, .mv (.t 1), none⟩,
  ⟨some 51, .mv (.t 16), none⟩,
  ⟨some 52, .bin .and (.t 50) (.t 51), none⟩,
  ⟨some 53, .index (.c (.str [48, 49, 50, 51, 52, 53, 54, 55, 56, 57, 97, 98, 99, 100, 101, 102, 103, 104, 105, 106, 107, 108, 109, 110, 111, 112, 113, 114, 115, 116, 117, 118, 119, 120, 121, 122])) (.t 52), none⟩,
  ⟨some 54, .iaddrA 1 65 (.t 12) (.t 49), none⟩,
  ⟨none, .store 1 (.t 54) (.t 53), none⟩]
def f382r14 : List ROper := [
  ⟨some 55, .mv (.t 1), none⟩,
  ⟨some 56, .mv (.t 14), none⟩,
  ⟨some 57, .bin .shr (.t 55) (.t 56), none⟩,
  ⟨some 1, .mv (.t 57), none⟩]
def f382r15 : List ROper := [
  ⟨some 58, .mv (.t 13), none⟩,
  ⟨some 59, .bin .sub (.t 58) (.c (.int .i64 (.ofNat 1))), none⟩,
  ⟨some 13, .mv (.t 59), none⟩]
def f382r16 : List ROper := [
  ⟨some 60, .mv (.t 13), none⟩,
  ⟨some 61, .mv (.t 1), none⟩,
  ⟨some 62, .index (.c (.str [48, 49, 50, 51, 52, 53, 54, 55, 56, 57, 97, 98, 99, 100, 101, 102, 103, 104, 105, 106, 107, 108, 109, 110, 111, 112, 113, 114, 115, 116, 117, 118, 119, 120, 121, 122])) (.t 61), none⟩,
  ⟨some 63, .iaddrA 1 65 (.t 12) (.t 60), none⟩,
  ⟨none, .store 1 (.t 63) (.t 62), none⟩]
def f382r17 : List ROper := [
  ⟨some 64, .mv (.t 2), none⟩,
  ⟨some 65, .i2i .u64 (.t 64), none⟩,
  ⟨some 17, .mv (.t 65), none⟩]
def f382r18 : List ROper := [
  ⟨some 66, .mv (.t 1), none⟩,
  ⟨some 67, .mv (.t 17), none⟩,
  ⟨some 68, .bin .geq (.t 66) (.t 67), none⟩]
def f382r19 : List ROper := [
  ⟨some 69, .mv (.t 13), none⟩,
  ⟨some 70, .bin .sub (.t 69) (.c (.int .i64 (.ofNat 1))), none⟩,
  ⟨some 13, .mv (.t 70), none⟩]
def f382r20 : List ROper := [
  ⟨some 71, .mv (.t 1), none⟩,
  ⟨some 72, .mv (.t 17), none⟩,
  ⟨some 73, .bin .quo (.t 71) (.t 72), none⟩,
  ⟨some 18, .mv (.t 73), none⟩]
def f382r21 : List ROper := [
  ⟨some 74, .mv (.t 13), none⟩,
  ⟨some 75, .mv (.t 1), none⟩,
  ⟨some 76, .mv (.t 18), none⟩,
  ⟨some 77, .mv (.t 17), none⟩,
  ⟨some 78, .bin .mul (.t 76) (.t 77), none⟩,
  ⟨some 79, .bin .sub (.t 75) (.t 78), none⟩,
  ⟨some 80, .index (.c (.str [48, 49, 50, 51, 52, 53, 54, 55, 56, 57, 97, 98, 99, 100, 101, 102, 103, 104, 105, 106, 107, 108, 109, 110, 111, 112, 113, 114, 115, 116, 117, 118, 119, 120, 121, 122])) (.t 79), none⟩,
  ⟨some 81, .iaddrA 1 65 (.t 12) (.t 74), none⟩,
  ⟨none, .store 1 (.t 81) (.t 80), none⟩]
def f382r22 : List ROper := [
  ⟨some 82, .mv (.t 18), none⟩,
  ⟨some 1, .mv (.t 82), none⟩]
def f382r23 : List ROper := [
  ⟨some 83, .mv (.t 13), none⟩,
  ⟨some 84, .bin .sub (.t 83) (.c (.int .i64 (.ofNat 1))), none⟩,
  ⟨some 13, .mv (.t 84), none⟩]
def f382r24 : List ROper := [
  ⟨some 85, .mv (.t 13), none⟩,
  ⟨some 86, .mv (.t 1), none⟩,
  ⟨some 87, .index (.c (.str [48, 49, 50, 51, 52, 53, 54, 55, 56, 57, 97, 98, 99, 100, 101, 102, 103, 104, 105, 106, 107, 108, 109, 110, 111, 112, 113, 114, 115, 116, 117, 118, 119, 120, 121, 122])) (.t 86), none⟩,
  ⟨some 88, .iaddrA 1 65 (.t 12) (.t 85), none⟩,
  ⟨none, .store 1 (.t 88) (.t 87), none⟩]
def f382r25 : List ROper := [
  ⟨some 89, .mv (.t 3), none⟩]
def f382r26 : List ROper := [
  ⟨some 90, .mv (.t 13), none⟩,
  ⟨some 91, .bin .sub (.t 90) (.c (.int .i64 (.ofNat 1))), none⟩,
  ⟨some 13, .mv (.t 91), none⟩]
def f382r27 : List ROper := [
  ⟨some 92, .mv (.t 13), none⟩,
  ⟨some 93, .iaddrA 1 65 (.t 12) (.t 92), none⟩,
  ⟨none, .store 1 (.t 93) (.c (.int .u8 (.ofNat 45))), none⟩]
def f382r28 : List ROper := [
  ⟨some 94, .mv (.t 4), none⟩]
def f382r29 : List ROper := [
  ⟨some 95, .mv (.t 0), none⟩,
  ⟨some 96, .mv (.t 13), none⟩,
  ⟨some 97, .fail, none⟩,
  ⟨some 98, .append 1 false 1 (.t 95) (.t 97), none⟩,
  ⟨some 10, .mv (.t 98), none⟩]
def f382r30 : List ROper := [
  ⟨some 99, .mv (.t 13), none⟩,
  ⟨some 100, .fail, none⟩,
  ⟨some 101, .b2s (.t 100), none⟩,
  ⟨some 11, .mv (.t 101), none⟩]
def f382 : RFunc := ⟨[.t 10, .t 11], (.seq (.region f382r0 [0, 1, 2, 3, 4, 10, 11]) (.seq (.seq (.region f382r1 [0, 1, 2, 3, 4, 10, 11, 28]) (.cond (.t 28) (.region f382r2 [0, 1, 2, 3, 4, 10, 11]) .skip)) (.seq (.region f382r3 [0, 1, 2, 3, 4, 10, 11, 12]) (.seq (.region f382r4 [0, 1, 2, 3, 4, 10, 11, 12, 13]) (.seq (.seq (.region f382r5 [0, 1, 2, 3, 4, 10, 11, 12, 13, 30]) (.cond (.t 30) (.region f382r6 [0, 1, 2, 3, 4, 10, 11, 12, 13]) .skip)) (.seq (.seq (.region f382r7 [0, 1, 2, 3, 4, 10, 11, 12, 13, 34]) (.cond (.t 34) (.seq (.region f382r8 [0, 1, 2, 3, 4, 10, 11, 12, 13, 14]) (.seq (.region f382r9 [0, 1, 2, 3, 4, 10, 11, 12, 13, 14, 15]) (.seq (.region f382r10 [0, 1, 3, 4, 10, 11, 12, 13, 14, 15, 16]) (.seq (.block 0 (.loop [0, 1, 3, 4, 10, 11, 12, 13, 14, 15, 16] (.seq (.seq (.region f382r11 [0, 1, 3, 4, 10, 11, 12, 13, 14, 15, 16, 46]) (.cond (.t 46) .skip (.exit 0))) (.block 1 (.seq (.region f382r12 [0, 1, 3, 4, 10, 11, 12, 13, 14, 15, 16]) (.seq (.region f382r13 [0, 1, 3, 4, 10, 11, 12, 13, 14, 15, 16]) (.region f382r14 [0, 1, 3, 4, 10, 11, 12, 13, 14, 15, 16]))))))) (.seq (.region f382r15 [0, 1, 3, 4, 10, 11, 12, 13]) (.region f382r16 [0, 3, 4, 10, 11, 12, 13])))))) (.seq (.region f382r17 [0, 1, 3, 4, 10, 11, 12, 13, 17]) (.seq (.block 2 (.loop [0, 1, 3, 4, 10, 11, 12, 13, 17] (.seq (.seq (.region f382r18 [0, 1, 3, 4, 10, 11, 12, 13, 17, 68]) (.cond (.t 68) .skip (.exit 2))) (.block 3 (.seq (.region f382r19 [0, 1, 3, 4, 10, 11, 12, 13, 17]) (.seq (.region f382r20 [0, 1, 3, 4, 10, 11, 12, 13, 17, 18]) (.seq (.region f382r21 [0, 3, 4, 10, 11, 12, 13, 17, 18]) (.region f382r22 [0, 1, 3, 4, 10, 11, 12, 13, 17])))))))) (.seq (.region f382r23 [0, 1, 3, 4, 10, 11, 12, 13]) (.region f382r24 [0, 3, 4, 10, 11, 12, 13])))))) (.seq (.seq (.region f382r25 [0, 4, 10, 11, 12, 13, 89]) (.cond (.t 89) (.seq (.region f382r26 [0, 4, 10, 11, 12, 13]) (.region f382r27 [0, 4, 10, 11, 13])) .skip)) (.seq (.seq (.region f382r28 [0, 10, 11, 13, 94]) (.cond (.t 94) (.seq (.region f382r29 [10, 11]) .ret) .skip)) (.seq (.region f382r30 [10, 11]) .ret))))))))), true⟩

/-! internal/strconv.log10Pow2 -/
def f383r0 : List ROper := [
  ⟨some 2, .mv (.c (.int .i64 (.ofNat 0))), none⟩]
def f383r1 : List ROper := [
  ⟨some 3, .mv (.t 0), none⟩,
  ⟨some 4, .bin .mul (.t 3) (.c (.int .i64 (.ofNat 78913))), none⟩,
  ⟨some 5, .bin .shr (.t 4) (.c (.int .u64 (.ofNat 18))), none⟩,
  ⟨some 2, .mv (.t 5), none⟩]
def f383 : RFunc := ⟨[.t 2], (.seq (.region f383r0 [0]) (.seq (.region f383r1 [2]) .ret)), true⟩

/-! internal/strconv.bool2[int] -/
def f384r0 : List ROper := [
  ⟨some 2, .mv (.c (.int .i64 (.ofNat 0))), none⟩]
def f384r1 : List ROper := [
  ⟨some 3, .mv (.t 0), none⟩]
def f384r2 : List ROper := [
  ⟨some 2, .mv (.c (.int .i64 (.ofNat 1))), none⟩]
def f384r3 : List ROper := [
  ⟨some 2, .mv (.c (.int .i64 (.ofNat 0))), none⟩]
def f384 : RFunc := ⟨[.t 2], (.seq (.region f384r0 [0]) (.seq (.seq (.region f384r1 [3]) (.cond (.t 3) (.seq (.region f384r2 [2]) .ret) .skip)) (.seq (.region f384r3 [2]) .ret))), true⟩

/-! internal/strconv.isPowerOfTwo -/
def f385r0 : List ROper := [
  ⟨some 2, .mv (.c (.bool false)), none⟩]
def f385r1 : List ROper := [
  ⟨some 3, .mv (.t 0), none⟩,
  ⟨some 4, .mv (.t 0), none⟩,
  ⟨some 5, .bin .sub (.t 4) (.c (.int .i64 (.ofNat 1))), none⟩,
  ⟨some 6, .bin .and (.t 3) (.t 5), none⟩,
  ⟨some 7, .bin .eql (.t 6) (.c (.int .i64 (.ofNat 0))), none⟩,
  ⟨some 2, .mv (.t 7), none⟩]
def f385 : RFunc := ⟨[.t 2], (.seq (.region f385r0 [0]) (.seq (.region f385r1 [2]) .ret)), true⟩

/-! math/bits.TrailingZeros -/
def f386r0 : List ROper := [
  ⟨some 2, .mv (.c (.int .i64 (.ofNat 0))), none⟩]
def f386r1 : List ROper := [
  ⟨some 3, .mv (.t 0), none⟩,
  ⟨some 4, .i2i .u32 (.t 3), none⟩,
  ⟨some 5, .call 387 [(.t 4)], none⟩,
  ⟨some 2, .mv (.t 5), none⟩]
def f386r2 : List ROper := [
  ⟨some 6, .mv (.t 0), none⟩,
  ⟨some 7, .call 388 [(.t 6)], none⟩,
  ⟨some 2, .mv (.t 7), none⟩]
def f386 : RFunc := ⟨[.t 2], (.seq (.region f386r0 [0]) (.seq (.cond (.c (.bool false)) (.seq (.region f386r1 [2]) .ret) .skip) (.seq (.region f386r2 [2]) .ret))), true⟩

/-! math/bits.TrailingZeros32 -/
def f387r0 : List ROper := [
  ⟨some 2, .mv (.c (.int .i64 (.ofNat 0))), none⟩]
def f387r1 : List ROper := [
  ⟨some 3, .mv (.t 0), none⟩,
  ⟨some 4, .bin .eql (.t 3) (.c (.int .u32 (.ofNat 0))), none⟩]
def f387r2 : List ROper := [
  ⟨some 2, .mv (.c (.int .i64 (.ofNat 32))), none⟩]
def f387r3 : List ROper := [
  ⟨some 5, .mv (.t 0), none⟩,
  ⟨some 6, .mv (.t 0), none⟩,
  ⟨some 7, .un .neg (.t 6), none⟩,
  ⟨some 8, .bin .and (.t 5) (.t 7), none⟩,
  ⟨some 9, .bin .mul (.t 8) (.c (.int .u32 (.ofNat 125613361))), none⟩,
  ⟨some 10, .bin .shr (.t 9) (.c (.int .u64 (.ofNat 27))), none⟩,
  ⟨some 11, .fail, none⟩,
  ⟨some 12, .load 1 false (.t 11), none⟩,
  ⟨some 13, .i2i .i64 (.t 12), none⟩,
  ⟨some 2, .mv (.t 13), none⟩]
def f387 : RFunc := ⟨[.t 2], (.seq (.region f387r0 [0]) (.seq (.seq (.region f387r1 [0, 4]) (.cond (.t 4) (.seq (.region f387r2 [2]) .ret) .skip)) (.seq (.region f387r3 [2]) .ret))), true⟩

/-! math/bits.TrailingZeros64 -/
def f388r0 : List ROper := [
  ⟨some 2, .mv (.c (.int .i64 (.ofNat 0))), none⟩]
def f388r1 : List ROper := [
  ⟨some 3, .mv (.t 0), none⟩,
  ⟨some 4, .bin .eql (.t 3) (.c (.int .u64 (.ofNat 0))), none⟩]
def f388r2 : List ROper := [
  ⟨some 2, .mv (.c (.int .i64 (.ofNat 64))), none⟩]
def f388r3 : List ROper := [
  ⟨some 5, .mv (.t 0), none⟩,
  ⟨some 6, .mv (.t 0), none⟩,
  ⟨some 7, .un .neg (.t 6), none⟩,
  ⟨some 8, .bin .and (.t 5) (.t 7), none⟩,
  ⟨some 9, .bin .mul (.t 8) (.c (.int .u64 (.ofNat 285870213051353865))), none⟩,
  ⟨some 10, .bin .shr (.t 9) (.c (.int .u64 (.ofNat 58))), none⟩,
  ⟨some 11, .fail, none⟩,
  ⟨some 12, .load 1 false (.t 11), none⟩,
  ⟨some 13, .i2i .i64 (.t 12), none⟩,
  ⟨some 2, .mv (.t 13), none⟩]
def f388 : RFunc := ⟨[.t 2], (.seq (.region f388r0 [0]) (.seq (.seq (.region f388r1 [0, 4]) (.cond (.t 4) (.seq (.region f388r2 [2]) .ret) .skip)) (.seq (.region f388r3 [2]) .ret))), true⟩

def tree : TT := (.node 165 (.node 123 (.node 61 (.node 40 (.node 27 (.node 17 (.node 13 (.leaf 10 (.code f10)) (.leaf 13 (.code f13))) (.node 21 (.leaf 17 (.code f17)) (.node 23 (.leaf 21 (.code f21)) (.leaf 23 (.code f23))))) (.node 30 (.node 29 (.leaf 27 (.code f27)) (.leaf 29 (.code f29))) (.node 31 (.leaf 30 (.code f30)) (.node 32 (.leaf 31 (.code f31)) (.leaf 32 (.code f32)))))) (.node 51 (.node 42 (.node 41 (.leaf 40 (.code f40)) (.leaf 41 (.code f41))) (.node 43 (.leaf 42 (.code f42)) (.node 44 (.leaf 43 (.code f43)) (.leaf 44 (.code f44))))) (.node 55 (.node 54 (.leaf 51 (.code f51)) (.leaf 54 (.code f54))) (.node 56 (.leaf 55 (.code f55)) (.node 57 (.leaf 56 (.code f56)) (.leaf 57 (.code f57))))))) (.node 108 (.node 69 (.node 64 (.node 62 (.leaf 61 (.code f61)) (.leaf 62 (.code f62))) (.node 65 (.leaf 64 (.prim countByteD)) (.node 68 (.leaf 65 (.code f65)) (.leaf 68 (.code f68))))) (.node 72 (.node 70 (.leaf 69 (.code f69)) (.leaf 70 (.code f70))) (.node 74 (.leaf 72 (.prim indexByteD)) (.node 106 (.leaf 74 (.code f74)) (.leaf 106 (.code f106)))))) (.node 117 (.node 110 (.node 109 (.leaf 108 (.code f108)) (.leaf 109 (.code f109))) (.node 113 (.leaf 110 (.code f110)) (.node 114 (.leaf 113 (.code f113)) (.leaf 114 (.code f114))))) (.node 120 (.node 118 (.leaf 117 (.code f117)) (.leaf 118 (.code f118))) (.node 121 (.leaf 120 (.code f120)) (.node 122 (.leaf 121 (.code f121)) (.leaf 122 (.code f122)))))))) (.node 144 (.node 134 (.node 129 (.node 126 (.node 124 (.leaf 123 (.code f123)) (.leaf 124 (.code f124))) (.node 127 (.leaf 126 (.code f126)) (.node 128 (.leaf 127 (.code f127)) (.leaf 128 (.code f128))))) (.node 131 (.node 130 (.leaf 129 (.code f129)) (.leaf 130 (.code f130))) (.node 132 (.leaf 131 (.code f131)) (.node 133 (.leaf 132 (.code f132)) (.leaf 133 (.code f133)))))) (.node 139 (.node 136 (.node 135 (.leaf 134 (.code f134)) (.leaf 135 (.code f135))) (.node 137 (.leaf 136 (.code f136)) (.node 138 (.leaf 137 (.code f137)) (.leaf 138 (.code f138))))) (.node 141 (.node 140 (.leaf 139 (.code f139)) (.leaf 140 (.code f140))) (.node 142 (.leaf 141 (.code f141)) (.node 143 (.leaf 142 (.code f142)) (.leaf 143 (.code f143))))))) (.node 154 (.node 149 (.node 146 (.node 145 (.leaf 144 (.code f144)) (.leaf 145 (.code f145))) (.node 147 (.leaf 146 (.code f146)) (.node 148 (.leaf 147 (.code f147)) (.leaf 148 (.code f148))))) (.node 151 (.node 150 (.leaf 149 (.code f149)) (.leaf 150 (.code f150))) (.node 152 (.leaf 151 (.code f151)) (.node 153 (.leaf 152 (.code f152)) (.leaf 153 (.code f153)))))) (.node 159 (.node 156 (.node 155 (.leaf 154 (.code f154)) (.leaf 155 (.code f155))) (.node 157 (.leaf 156 (.code f156)) (.node 158 (.leaf 157 (.code f157)) (.leaf 158 (.code f158))))) (.node 162 (.node 160 (.leaf 159 (.code f159)) (.node 161 (.leaf 160 (.code f160)) (.leaf 161 (.code f161)))) (.node 163 (.leaf 162 (.code f162)) (.node 164 (.leaf 163 (.code f163)) (.leaf 164 (.code f164))))))))) (.node 294 (.node 271 (.node 246 (.node 234 (.node 167 (.node 166 (.leaf 165 (.code f165)) (.leaf 166 (.code f166))) (.node 211 (.leaf 167 (.code f167)) (.node 218 (.leaf 211 (.code f211)) (.leaf 218 (.code f218))))) (.node 243 (.node 242 (.leaf 234 (.code f234)) (.leaf 242 (.code f242))) (.node 244 (.leaf 243 (.code f243)) (.node 245 (.leaf 244 (.code f244)) (.leaf 245 (.code f245)))))) (.node 266 (.node 248 (.node 247 (.leaf 246 (.code f246)) (.leaf 247 (.code f247))) (.node 249 (.leaf 248 (.code f248)) (.node 265 (.leaf 249 (.code f249)) (.leaf 265 (.code f265))))) (.node 268 (.node 267 (.leaf 266 (.code f266)) (.leaf 267 (.code f267))) (.node 269 (.leaf 268 (.code f268)) (.node 270 (.leaf 269 (.code f269)) (.leaf 270 (.code f270))))))) (.node 283 (.node 278 (.node 275 (.node 272 (.leaf 271 (.code f271)) (.leaf 272 (.code f272))) (.node 276 (.leaf 275 (.code f275)) (.node 277 (.leaf 276 (.code f276)) (.leaf 277 (.code f277))))) (.node 280 (.node 279 (.leaf 278 (.code f278)) (.leaf 279 (.code f279))) (.node 281 (.leaf 280 (.code f280)) (.node 282 (.leaf 281 (.code f281)) (.leaf 282 (.code f282)))))) (.node 288 (.node 285 (.node 284 (.leaf 283 (.code f283)) (.leaf 284 (.code f284))) (.node 286 (.leaf 285 (.code f285)) (.node 287 (.leaf 286 (.code f286)) (.leaf 287 (.code f287))))) (.node 291 (.node 289 (.leaf 288 (.code f288)) (.node 290 (.leaf 289 (.code f289)) (.leaf 290 (.code f290)))) (.node 292 (.leaf 291 (.code f291)) (.node 293 (.leaf 292 (.code f292)) (.leaf 293 (.code f293)))))))) (.node 361 (.node 321 (.node 299 (.node 296 (.node 295 (.leaf 294 (.code f294)) (.leaf 295 (.code f295))) (.node 297 (.leaf 296 (.code f296)) (.node 298 (.leaf 297 (.code f297)) (.leaf 298 (.code f298))))) (.node 309 (.node 307 (.leaf 299 (.code f299)) (.leaf 307 (.code f307))) (.node 319 (.leaf 309 (.code f309)) (.node 320 (.leaf 319 (.code f319)) (.leaf 320 (.code f320)))))) (.node 343 (.node 330 (.node 322 (.leaf 321 (.code f321)) (.leaf 322 (.code f322))) (.node 331 (.leaf 330 (.code f330)) (.node 332 (.leaf 331 (.code f331)) (.leaf 332 (.code f332))))) (.node 345 (.node 344 (.leaf 343 (.code f343)) (.leaf 344 (.code f344))) (.node 346 (.leaf 345 (.code f345)) (.node 359 (.leaf 346 (.code f346)) (.leaf 359 (.code f359))))))) (.node 378 (.node 371 (.node 365 (.node 363 (.leaf 361 (.code f361)) (.leaf 363 (.code f363))) (.node 367 (.leaf 365 (.code f365)) (.node 369 (.leaf 367 (.code f367)) (.leaf 369 (.code f369))))) (.node 374 (.node 373 (.leaf 371 (.code f371)) (.leaf 373 (.code f373))) (.node 376 (.leaf 374 (.code f374)) (.node 377 (.leaf 376 (.code f376)) (.leaf 377 (.code f377)))))) (.node 383 (.node 380 (.node 379 (.leaf 378 (.code f378)) (.leaf 379 (.code f379))) (.node 381 (.leaf 380 (.code f380)) (.node 382 (.leaf 381 (.code f381)) (.leaf 382 (.code f382))))) (.node 386 (.node 384 (.leaf 383 (.code f383)) (.node 385 (.leaf 384 (.code f384)) (.leaf 385 (.code f385)))) (.node 387 (.leaf 386 (.code f386)) (.node 388 (.leaf 387 (.code f387)) (.leaf 388 (.code f388))))))))))

def fms : List (Nat × FuncId) := [(265, 193), (266, 194), (10, 83), (267, 195), (268, 196), (269, 197), (13, 46), (270, 199), (271, 200), (272, 201), (17, 140), (275, 223), (276, 224), (277, 225), (21, 182), (278, 226), (279, 228), (23, 139), (280, 229), (281, 230), (282, 236), (283, 237), (27, 76), (284, 238), (285, 239), (29, 133), (286, 240), (30, 134), (287, 241), (31, 135), (288, 242), (32, 136), (289, 243), (290, 244), (291, 245), (292, 246), (293, 172), (294, 251), (295, 252), (296, 253), (40, 77), (297, 254), (41, 78), (298, 255), (42, 79), (299, 258), (43, 80), (44, 81), (307, 24), (51, 190), (309, 9), (54, 126), (55, 127), (56, 181), (57, 183), (61, 128), (62, 129), (319, 31), (63, 130), (64, 131), (320, 33), (65, 132), (321, 34), (322, 36), (68, 176), (69, 177), (70, 178), (72, 179), (73, 180), (74, 212), (330, 50), (331, 51), (332, 54), (343, 93), (344, 94), (345, 95), (346, 96), (359, 5), (361, 7), (106, 32), (363, 10), (108, 53), (365, 13), (109, 97), (110, 192), (367, 15), (369, 17), (113, 52), (114, 35), (371, 20), (373, 22), (117, 48), (374, 26), (118, 49), (376, 30), (120, 142), (377, 45), (121, 55), (378, 75), (122, 191), (379, 122), (123, 56), (380, 123), (124, 222), (381, 124), (382, 125), (126, 47), (383, 171), (127, 98), (384, 173), (128, 99), (385, 174), (129, 100), (386, 175), (130, 101), (387, 210), (131, 84), (388, 211), (132, 85), (133, 86), (134, 87), (135, 88), (136, 89), (137, 90), (138, 91), (139, 235), (140, 82), (141, 143), (142, 144), (143, 137), (144, 138), (145, 249), (146, 250), (147, 184), (148, 185), (149, 186), (150, 187), (151, 188), (152, 189), (153, 256), (154, 257), (155, 198), (156, 216), (157, 217), (158, 218), (159, 219), (160, 220), (161, 221), (162, 227), (163, 232), (164, 233), (165, 234), (166, 247), (167, 248), (211, 92), (218, 102), (234, 141), (242, 145), (243, 146), (244, 147), (245, 148), (246, 149), (247, 150), (248, 151), (249, 152)]

def env : List (Nat × List Nat) := [(2, asciiSpaceL)]

end Go.D.Tab
