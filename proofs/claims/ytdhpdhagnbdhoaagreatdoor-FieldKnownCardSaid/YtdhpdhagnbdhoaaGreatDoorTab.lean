/-
The code of what the laws reach, as a table of the small language. Printed by wip/gen.
-/
import Derived.Test.YtdhpdhagnbdhoaaGreatDoorTab1
namespace Go.D.Tab

/-! internal/strconv.formatBits -/
def f382r0 : List ROper := [
  ⟨some 10, .mv (.c (.list 0 0 .no false [])), none⟩,
  ⟨some 11, .mv (.c (.str [])), none⟩]
def f382r1 : List ROper := [
  ⟨some 19, .mv (.t 2), none⟩,
  ⟨some 20, .bin .lss (.t 19) (.c (.int .i64 (.ofNat 2))), none⟩,
  ⟨some 21, .mv (.t 20), none⟩,
  ⟨some 22, .mv (.t 2), some (21, false)⟩,
  ⟨some 23, .bin .eql (.t 22) (.c (.int .i64 (.ofNat 10))), some (21, false)⟩,
  ⟨some 24, .pick (.t 21) (.c (.bool true)) (.t 23), none⟩,
  ⟨some 25, .mv (.t 24), none⟩,
  ⟨some 26, .mv (.t 2), some (25, false)⟩,
  ⟨some 27, .bin .gtr (.t 26) (.c (.int .i64 (.ofNat 36))), some (25, false)⟩,
  ⟨some 28, .pick (.t 25) (.c (.bool true)) (.t 27), none⟩]
def f382r2 : List ROper := [
  ⟨some 29, .iface 9 (.c (.str [115, 116, 114, 99, 111, 110, 118, 58, 32, 105, 108, 108, 101, 103, 97, 108, 32, 65, 112, 112, 101, 110, 100, 73, 110, 116, 47, 70, 111, 114, 109, 97, 116, 73, 110, 116, 32, 98, 97, 115, 101])), none⟩,
  ⟨none, .fail, none⟩]
def f382r3 : List ROper := [
  ⟨some 12, .alloc [(.int .u8 (.ofNat 0)), (.int .u8 (.ofNat 0)), (.int .u8 (.ofNat 0)), (.int .u8 (.ofNat 0)), (.int .u8 (.ofNat 0)), (.int .u8 (.ofNat 0)), (.int .u8 (.ofNat 0)), (.int .u8 (.ofNat 0)), (.int .u8 (.ofNat 0)), (.int .u8 (.ofNat 0)), (.int .u8 (.ofNat 0)), (.int .u8 (.ofNat 0)), (.int .u8 (.ofNat 0)), (.int .u8 (.ofNat 0)), (.int .u8 (.ofNat 0)), (.int .u8 (.ofNat 0)), (.int .u8 (.ofNat 0)), (.int .u8 (.ofNat 0)), (.int .u8 (.ofNat 0)), (.int .u8 (.ofNat 0)), (.int .u8 (.ofNat 0)), (.int .u8 (.ofNat 0)), (.int .u8 (.ofNat 0)), (.int .u8 (.ofNat 0)), (.int .u8 (.ofNat 0)), (.int .u8 (.ofNat 0)), (.int .u8 (.ofNat 0)), (.int .u8 (.ofNat 0)), (.int .u8 (.ofNat 0)), (.int .u8 (.ofNat 0)), (.int .u8 (.ofNat 0)), (.int .u8 (.ofNat 0)), (.int .u8 (.ofNat 0)), (.int .u8 (.ofNat 0)), (.int .u8 (.ofNat 0)), (.int .u8 (.ofNat 0)), (.int .u8 (.ofNat 0)), (.int .u8 (.ofNat 0)), (.int .u8 (.ofNat 0)), (.int .u8 (.ofNat 0)), (.int .u8 (.ofNat 0)), (.int .u8 (.ofNat 0)), (.int .u8 (.ofNat 0)), (.int .u8 (.ofNat 0)), (.int .u8 (.ofNat 0)), (.int .u8 (.ofNat 0)), (.int .u8 (.ofNat 0)), (.int .u8 (.ofNat 0)), (.int .u8 (.ofNat 0)), (.int .u8 (.ofNat 0)), (.int .u8 (.ofNat 0)), (.int .u8 (.ofNat 0)), (.int .u8 (.ofNat 0)), (.int .u8 (.ofNat 0)), (.int .u8 (.ofNat 0)), (.int .u8 (.ofNat 0)), (.int .u8 (.ofNat 0)), (.int .u8 (.ofNat 0)), (.int .u8 (.ofNat 0)), (.int .u8 (.ofNat 0)), (.int .u8 (.ofNat 0)), (.int .u8 (.ofNat 0)), (.int .u8 (.ofNat 0)), (.int .u8 (.ofNat 0)), (.int .u8 (.ofNat 0))], none⟩]
def f382r4 : List ROper := [
  ⟨some 13, .mv (.c (.int .i64 (.ofNat 65))), none⟩]
def f382r5 : List ROper := [
  ⟨some 30, .mv (.t 3), none⟩]
def f382r6 : List ROper := [
  ⟨some 31, .mv (.t 1), none⟩,
  ⟨some 32, .un .neg (.t 31), none⟩,
  ⟨some 1, .mv (.t 32), none⟩]
def f382r7 : List ROper := [
  ⟨some 33, .mv (.t 2), none⟩,
  ⟨some 34, .call 385 [(.t 33)], none⟩]
def f382r8 : List ROper := [
  ⟨some 35, .mv (.t 2), none⟩,
  ⟨some 36, .i2i .u64 (.t 35), none⟩,
  ⟨some 37, .call 386 [(.t 36)], none⟩,
  ⟨some 38, .i2i .u64 (.t 37), none⟩,
  ⟨some 14, .mv (.t 38), none⟩]
def f382r9 : List ROper := [
  ⟨some 39, .mv (.t 2), none⟩,
  ⟨some 40, .i2i .u64 (.t 39), none⟩,
  ⟨some 15, .mv (.t 40), none⟩]
def f382r10 : List ROper := [
  ⟨some 41, .mv (.t 2), none⟩,
  ⟨some 42, .i2i .u64 (.t 41), none⟩,
  ⟨some 43, .bin .sub (.t 42) (.c (.int .u64 (.ofNat 1))), none⟩,
  ⟨some 16, .mv (.t 43), none⟩]
def f382r11 : List ROper := [
  ⟨some 44, .mv (.t 1), none⟩,
  ⟨some 45, .mv (.t 15), none⟩,
  ⟨some 46, .bin .geq (.t 44) (.t 45), none⟩]
def f382r12 : List ROper := [
  ⟨some 47, .mv (.t 13), none⟩,
  ⟨some 48, .bin .sub (.t 47) (.c (.int .i64 (.ofNat 1))), none⟩,
  ⟨some 13, .mv (.t 48), none⟩]
def f382r13 : List ROper := [
  ⟨some 49, .mv (.t 13), none⟩,
  ⟨some 50, .mv (.t 1), none⟩,
  ⟨some 51, .mv (.t 16), none⟩,
  ⟨some 52, .bin .and (.t 50) (.t 51), none⟩,
  ⟨some 53, .index (.c (.str [48, 49, 50, 51, 52, 53, 54, 55, 56, 57, 97, 98, 99, 100, 101, 102, 103, 104, 105, 106, 107, 108, 109, 110, 111, 112, 113, 114, 115, 116, 117, 118, 119, 120, 121, 122])) (.t 52), none⟩,
  ⟨some 54, .iaddrA 1 65 (.t 12) (.t 49), none⟩,
  ⟨none, .store 1 (.t 54) (.t 53), none⟩]
def f382r14 : List ROper := [
  ⟨some 55, .mv (.t 1), none⟩,
  ⟨some 56, .mv (.t 14), none⟩,
  ⟨some 57, .bin .shr (.t 55) (.t 56), none⟩,
  ⟨some 1, .mv (.t 57), none⟩]
def f382r15 : List ROper := [
  ⟨some 58, .mv (.t 13), none⟩,
  ⟨some 59, .bin .sub (.t 58) (.c (.int .i64 (.ofNat 1))), none⟩,
  ⟨some 13, .mv (.t 59), none⟩]
def f382r16 : List ROper := [
  ⟨some 60, .mv (.t 13), none⟩,
  ⟨some 61, .mv (.t 1), none⟩,
  ⟨some 62, .index (.c (.str [48, 49, 50, 51, 52, 53, 54, 55, 56, 57, 97, 98, 99, 100, 101, 102, 103, 104, 105, 106, 107, 108, 109, 110, 111, 112, 113, 114, 115, 116, 117, 118, 119, 120, 121, 122])) (.t 61), none⟩,
  ⟨some 63, .iaddrA 1 65 (.t 12) (.t 60), none⟩,
  ⟨none, .store 1 (.t 63) (.t 62), none⟩]
def f382r17 : List ROper := [
  ⟨some 64, .mv (.t 2), none⟩,
  ⟨some 65, .i2i .u64 (.t 64), none⟩,
  ⟨some 17, .mv (.t 65), none⟩]
def f382r18 : List ROper := [
  ⟨some 66, .mv (.t 1), none⟩,
  ⟨some 67, .mv (.t 17), none⟩,
  ⟨some 68, .bin .geq (.t 66) (.t 67), none⟩]
def f382r19 : List ROper := [
  ⟨some 69, .mv (.t 13), none⟩,
  ⟨some 70, .bin .sub (.t 69) (.c (.int .i64 (.ofNat 1))), none⟩,
  ⟨some 13, .mv (.t 70), none⟩]
def f382r20 : List ROper := [
  ⟨some 71, .mv (.t 1), none⟩,
  ⟨some 72, .mv (.t 17), none⟩,
  ⟨some 73, .bin .quo (.t 71) (.t 72), none⟩,
  ⟨some 18, .mv (.t 73), none⟩]
def f382r21 : List ROper := [
  ⟨some 74, .mv (.t 13), none⟩,
  ⟨some 75, .mv (.t 1), none⟩,
  ⟨some 76, .mv (.t 18), none⟩,
  ⟨some 77, .mv (.t 17), none⟩,
  ⟨some 78, .bin .mul (.t 76) (.t 77), none⟩,
  ⟨some 79, .bin .sub (.t 75) (.t 78), none⟩,
  ⟨some 80, .index (.c (.str [48, 49, 50, 51, 52, 53, 54, 55, 56, 57, 97, 98, 99, 100, 101, 102, 103, 104, 105, 106, 107, 108, 109, 110, 111, 112, 113, 114, 115, 116, 117, 118, 119, 120, 121, 122])) (.t 79), none⟩,
  ⟨some 81, .iaddrA 1 65 (.t 12) (.t 74), none⟩,
  ⟨none, .store 1 (.t 81) (.t 80), none⟩]
def f382r22 : List ROper := [
  ⟨some 82, .mv (.t 18), none⟩,
  ⟨some 1, .mv (.t 82), none⟩]
def f382r23 : List ROper := [
  ⟨some 83, .mv (.t 13), none⟩,
  ⟨some 84, .bin .sub (.t 83) (.c (.int .i64 (.ofNat 1))), none⟩,
  ⟨some 13, .mv (.t 84), none⟩]
def f382r24 : List ROper := [
  ⟨some 85, .mv (.t 13), none⟩,
  ⟨some 86, .mv (.t 1), none⟩,
  ⟨some 87, .index (.c (.str [48, 49, 50, 51, 52, 53, 54, 55, 56, 57, 97, 98, 99, 100, 101, 102, 103, 104, 105, 106, 107, 108, 109, 110, 111, 112, 113, 114, 115, 116, 117, 118, 119, 120, 121, 122])) (.t 86), none⟩,
  ⟨some 88, .iaddrA 1 65 (.t 12) (.t 85), none⟩,
  ⟨none, .store 1 (.t 88) (.t 87), none⟩]
def f382r25 : List ROper := [
  ⟨some 89, .mv (.t 3), none⟩]
def f382r26 : List ROper := [
  ⟨some 90, .mv (.t 13), none⟩,
  ⟨some 91, .bin .sub (.t 90) (.c (.int .i64 (.ofNat 1))), none⟩,
  ⟨some 13, .mv (.t 91), none⟩]
def f382r27 : List ROper := [
  ⟨some 92, .mv (.t 13), none⟩,
  ⟨some 93, .iaddrA 1 65 (.t 12) (.t 92), none⟩,
  ⟨none, .store 1 (.t 93) (.c (.int .u8 (.ofNat 45))), none⟩]
def f382r28 : List ROper := [
  ⟨some 94, .mv (.t 4), none⟩]
def f382r29 : List ROper := [
  ⟨some 95, .mv (.t 0), none⟩,
  ⟨some 96, .mv (.t 13), none⟩,
  ⟨some 97, .fail, none⟩,
  ⟨some 98, .append 1 false 1 (.t 95) (.t 97), none⟩,
  ⟨some 10, .mv (.t 98), none⟩]
def f382r30 : List ROper := [
  ⟨some 99, .mv (.t 13), none⟩,
  ⟨some 100, .fail, none⟩,
  ⟨some 101, .b2s (.t 100), none⟩,
  ⟨some 11, .mv (.t 101), none⟩]
def f382 : RFunc := ⟨[.t 10, .t 11], (.seq (.region f382r0 [0, 1, 2, 3, 4, 10, 11]) (.seq (.seq (.region f382r1 [0, 1, 2, 3, 4, 10, 11, 28]) (.cond (.t 28) (.region f382r2 [0, 1, 2, 3, 4, 10, 11]) .skip)) (.seq (.region f382r3 [0, 1, 2, 3, 4, 10, 11, 12]) (.seq (.region f382r4 [0, 1, 2, 3, 4, 10, 11, 12, 13]) (.seq (.seq (.region f382r5 [0, 1, 2, 3, 4, 10, 11, 12, 13, 30]) (.cond (.t 30) (.region f382r6 [0, 1, 2, 3, 4, 10, 11, 12, 13]) .skip)) (.seq (.seq (.region f382r7 [0, 1, 2, 3, 4, 10, 11, 12, 13, 34]) (.cond (.t 34) (.seq (.region f382r8 [0, 1, 2, 3, 4, 10, 11, 12, 13, 14]) (.seq (.region f382r9 [0, 1, 2, 3, 4, 10, 11, 12, 13, 14, 15]) (.seq (.region f382r10 [0, 1, 3, 4, 10, 11, 12, 13, 14, 15, 16]) (.seq (.block 0 (.loop [0, 1, 3, 4, 10, 11, 12, 13, 14, 15, 16] (.seq (.seq (.region f382r11 [0, 1, 3, 4, 10, 11, 12, 13, 14, 15, 16, 46]) (.cond (.t 46) .skip (.exit 0))) (.block 1 (.seq (.region f382r12 [0, 1, 3, 4, 10, 11, 12, 13, 14, 15, 16]) (.seq (.region f382r13 [0, 1, 3, 4, 10, 11, 12, 13, 14, 15, 16]) (.region f382r14 [0, 1, 3, 4, 10, 11, 12, 13, 14, 15, 16]))))))) (.seq (.region f382r15 [0, 1, 3, 4, 10, 11, 12, 13]) (.region f382r16 [0, 3, 4, 10, 11, 12, 13])))))) (.seq (.region f382r17 [0, 1, 3, 4, 10, 11, 12, 13, 17]) (.seq (.block 2 (.loop [0, 1, 3, 4, 10, 11, 12, 13, 17] (.seq (.seq (.region f382r18 [0, 1, 3, 4, 10, 11, 12, 13, 17, 68]) (.cond (.t 68) .skip (.exit 2))) (.block 3 (.seq (.region f382r19 [0, 1, 3, 4, 10, 11, 12, 13, 17]) (.seq (.region f382r20 [0, 1, 3, 4, 10, 11, 12, 13, 17, 18]) (.seq (.region f382r21 [0, 3, 4, 10, 11, 12, 13, 17, 18]) (.region f382r22 [0, 1, 3, 4, 10, 11, 12, 13, 17])))))))) (.seq (.region f382r23 [0, 1, 3, 4, 10, 11, 12, 13]) (.region f382r24 [0, 3, 4, 10, 11, 12, 13])))))) (.seq (.seq (.region f382r25 [0, 4, 10, 11, 12, 13, 89]) (.cond (.t 89) (.seq (.region f382r26 [0, 4, 10, 11, 12, 13]) (.region f382r27 [0, 4, 10, 11, 13])) .skip)) (.seq (.seq (.region f382r28 [0, 10, 11, 13, 94]) (.cond (.t 94) (.seq (.region f382r29 [10, 11]) .ret) .skip)) (.seq (.region f382r30 [10, 11]) .ret))))))))), true⟩

/-! internal/strconv.log10Pow2 -/
def f383r0 : List ROper := [
  ⟨some 2, .mv (.c (.int .i64 (.ofNat 0))), none⟩]
def f383r1 : List ROper := [
  ⟨some 3, .mv (.t 0), none⟩,
  ⟨some 4, .bin .mul (.t 3) (.c (.int .i64 (.ofNat 78913))), none⟩,
  ⟨some 5, .bin .shr (.t 4) (.c (.int .u64 (.ofNat 18))), none⟩,
  ⟨some 2, .mv (.t 5), none⟩]
def f383 : RFunc := ⟨[.t 2], (.seq (.region f383r0 [0]) (.seq (.region f383r1 [2]) .ret)), true⟩

/-! internal/strconv.bool2[int] -/
def f384r0 : List ROper := [
  ⟨some 2, .mv (.c (.int .i64 (.ofNat 0))), none⟩]
def f384r1 : List ROper := [
  ⟨some 3, .mv (.t 0), none⟩]
def f384r2 : List ROper := [
  ⟨some 2, .mv (.c (.int .i64 (.ofNat 1))), none⟩]
def f384r3 : List ROper := [
  ⟨some 2, .mv (.c (.int .i64 (.ofNat 0))), none⟩]
def f384 : RFunc := ⟨[.t 2], (.seq (.region f384r0 [0]) (.seq (.seq (.region f384r1 [3]) (.cond (.t 3) (.seq (.region f384r2 [2]) .ret) .skip)) (.seq (.region f384r3 [2]) .ret))), true⟩

/-! internal/strconv.isPowerOfTwo -/
def f385r0 : List ROper := [
  ⟨some 2, .mv (.c (.bool false)), none⟩]
def f385r1 : List ROper := [
  ⟨some 3, .mv (.t 0), none⟩,
  ⟨some 4, .mv (.t 0), none⟩,
  ⟨some 5, .bin .sub (.t 4) (.c (.int .i64 (.ofNat 1))), none⟩,
  ⟨some 6, .bin .and (.t 3) (.t 5), none⟩,
  ⟨some 7, .bin .eql (.t 6) (.c (.int .i64 (.ofNat 0))), none⟩,
  ⟨some 2, .mv (.t 7), none⟩]
def f385 : RFunc := ⟨[.t 2], (.seq (.region f385r0 [0]) (.seq (.region f385r1 [2]) .ret)), true⟩

/-! math/bits.TrailingZeros -/
def f386r0 : List ROper := [
  ⟨some 2, .mv (.c (.int .i64 (.ofNat 0))), none⟩]
def f386r1 : List ROper := [
  ⟨some 3, .mv (.t 0), none⟩,
  ⟨some 4, .i2i .u32 (.t 3), none⟩,
  ⟨some 5, .call 387 [(.t 4)], none⟩,
  ⟨some 2, .mv (.t 5), none⟩]
def f386r2 : List ROper := [
  ⟨some 6, .mv (.t 0), none⟩,
  ⟨some 7, .call 388 [(.t 6)], none⟩,
  ⟨some 2, .mv (.t 7), none⟩]
def f386 : RFunc := ⟨[.t 2], (.seq (.region f386r0 [0]) (.seq (.cond (.c (.bool false)) (.seq (.region f386r1 [2]) .ret) .skip) (.seq (.region f386r2 [2]) .ret))), true⟩

/-! math/bits.TrailingZeros32 -/
def f387r0 : List ROper := [
  ⟨some 2, .mv (.c (.int .i64 (.ofNat 0))), none⟩]
def f387r1 : List ROper := [
  ⟨some 3, .mv (.t 0), none⟩,
  ⟨some 4, .bin .eql (.t 3) (.c (.int .u32 (.ofNat 0))), none⟩]
def f387r2 : List ROper := [
  ⟨some 2, .mv (.c (.int .i64 (.ofNat 32))), none⟩]
def f387r3 : List ROper := [
  ⟨some 5, .mv (.t 0), none⟩,
  ⟨some 6, .mv (.t 0), none⟩,
  ⟨some 7, .un .neg (.t 6), none⟩,
  ⟨some 8, .bin .and (.t 5) (.t 7), none⟩,
  ⟨some 9, .bin .mul (.t 8) (.c (.int .u32 (.ofNat 125613361))), none⟩,
  ⟨some 10, .bin .shr (.t 9) (.c (.int .u64 (.ofNat 27))), none⟩,
  ⟨some 11, .fail, none⟩,
  ⟨some 12, .load 1 false (.t 11), none⟩,
  ⟨some 13, .i2i .i64 (.t 12), none⟩,
  ⟨some 2, .mv (.t 13), none⟩]
def f387 : RFunc := ⟨[.t 2], (.seq (.region f387r0 [0]) (.seq (.seq (.region f387r1 [0, 4]) (.cond (.t 4) (.seq (.region f387r2 [2]) .ret) .skip)) (.seq (.region f387r3 [2]) .ret))), true⟩

/-! math/bits.TrailingZeros64 -/
def f388r0 : List ROper := [
  ⟨some 2, .mv (.c (.int .i64 (.ofNat 0))), none⟩]
def f388r1 : List ROper := [
  ⟨some 3, .mv (.t 0), none⟩,
  ⟨some 4, .bin .eql (.t 3) (.c (.int .u64 (.ofNat 0))), none⟩]
def f388r2 : List ROper := [
  ⟨some 2, .mv (.c (.int .i64 (.ofNat 64))), none⟩]
def f388r3 : List ROper := [
  ⟨some 5, .mv (.t 0), none⟩,
  ⟨some 6, .mv (.t 0), none⟩,
  ⟨some 7, .un .neg (.t 6), none⟩,
  ⟨some 8, .bin .and (.t 5) (.t 7), none⟩,
  ⟨some 9, .bin .mul (.t 8) (.c (.int .u64 (.ofNat 285870213051353865))), none⟩,
  ⟨some 10, .bin .shr (.t 9) (.c (.int .u64 (.ofNat 58))), none⟩,
  ⟨some 11, .fail, none⟩,
  ⟨some 12, .load 1 false (.t 11), none⟩,
  ⟨some 13, .i2i .i64 (.t 12), none⟩,
  ⟨some 2, .mv (.t 13), none⟩]
def f388 : RFunc := ⟨[.t 2], (.seq (.region f388r0 [0]) (.seq (.seq (.region f388r1 [0, 4]) (.cond (.t 4) (.seq (.region f388r2 [2]) .ret) .skip)) (.seq (.region f388r3 [2]) .ret))), true⟩

/-! quire/quirelaw26.FieldKnown -/
def f395r0 : List ROper := [
  ⟨some 0, .mv (.c (.bool false)), none⟩]
def f395r1 : List ROper := [
  ⟨some 13, .call 413 [(.c (.str [45, 32, 3, 32, 45])), (.c (.int .i64 (.ofNat 12)))], none⟩,
  ⟨some 12, .mv (.t 13), none⟩,
  ⟨some 14, .extract (.t 12) 0, none⟩,
  ⟨some 15, .extract (.t 12) 1, none⟩,
  ⟨some 1, .mv (.t 14), none⟩,
  ⟨some 2, .mv (.t 15), none⟩]
def f395r2 : List ROper := [
  ⟨some 17, .call 415 [], none⟩,
  ⟨some 18, .call 414 [(.t 17), (.c (.int .i64 (.ofNat 2))), (.c (.bool false))], none⟩,
  ⟨some 16, .mv (.t 18), none⟩,
  ⟨some 19, .extract (.t 16) 0, none⟩,
  ⟨some 20, .extract (.t 16) 1, none⟩,
  ⟨some 3, .alloc [(.str []), (.str []), (.int .i64 (.ofNat 0)), (.int .i64 (.ofNat 0)), (.int .i64 (.ofNat 0)), (.int .i64 (.ofNat 0)), (.int .i64 (.ofNat 0)), (.int .i64 (.ofNat 0)), (.int .i64 (.ofNat 0)), (.int .i64 (.ofNat 0)), (.list 0 0 .no false []), (.list 0 0 .no false []), (.bool false)], none⟩,
  ⟨none, .store 13 (.t 3) (.t 19), none⟩,
  ⟨some 4, .mv (.t 20), none⟩]
def f395r3 : List ROper := [
  ⟨some 22, .build [(.int .i64 (.ofNat 0)), (.int .i64 (.ofNat 0)), (.int .i64 (.ofNat 0)), (.int .i64 (.ofNat 0))] [(2, 1, (.c (.int .i64 (.ofNat 5)))), (3, 1, (.c (.int .i64 (.ofNat 10))))], none⟩,
  ⟨some 23, .call 416 [(.c (.str [97, 32, 98])), (.t 22)], none⟩,
  ⟨some 21, .mv (.t 23), none⟩,
  ⟨some 24, .extract (.t 21) 0, none⟩,
  ⟨some 25, .extract (.t 21) 1, none⟩,
  ⟨some 26, .extract (.t 21) 2, none⟩,
  ⟨some 5, .mv (.t 24), none⟩,
  ⟨some 6, .mv (.t 25), none⟩,
  ⟨some 7, .mv (.t 26), none⟩]
def f395r4 : List ROper := [
  ⟨some 28, .call 413 [(.c (.str [120])), (.c (.int .i64 (.ofNat 0)))], none⟩,
  ⟨some 27, .mv (.t 28), none⟩,
  ⟨some 29, .extract (.t 27) 0, none⟩,
  ⟨some 30, .extract (.t 27) 1, none⟩,
  ⟨some 8, .mv (.t 29), none⟩,
  ⟨some 9, .mv (.t 30), none⟩]
def f395r5 : List ROper := [
  ⟨some 32, .call 413 [(.c (.str [9])), (.c (.int .i64 (.ofNat 1)))], none⟩,
  ⟨some 31, .mv (.t 32), none⟩,
  ⟨some 33, .extract (.t 31) 0, none⟩,
  ⟨some 34, .extract (.t 31) 1, none⟩,
  ⟨some 10, .mv (.t 33), none⟩,
  ⟨some 11, .mv (.t 34), none⟩]
def f395r6 : List ROper := [
  ⟨some 35, .call 417 [], none⟩,
  ⟨some 36, .mv (.t 35), none⟩,
  ⟨some 37, .mv (.t 1), some (36, true)⟩,
  ⟨some 38, .bin .eql (.t 37) (.c (.str [45, 32, 49, 50, 32, 45])), some (36, true)⟩,
  ⟨some 39, .pick (.t 36) (.t 38) (.c (.bool false)), none⟩,
  ⟨some 40, .mv (.t 39), none⟩,
  ⟨some 41, .mv (.t 2), some (40, true)⟩,
  ⟨some 42, .bin .eql (.t 41) (.c (.int .i64 (.ofNat 0))), some (40, true)⟩,
  ⟨some 43, .pick (.t 40) (.t 42) (.c (.bool false)), none⟩,
  ⟨some 44, .mv (.t 43), none⟩,
  ⟨some 45, .faddr 0 (.t 3), some (44, true)⟩,
  ⟨some 46, .load 1 false (.t 45), some (44, true)⟩,
  ⟨some 47, .bin .eql (.t 46) (.c (.str [])), some (44, true)⟩,
  ⟨some 48, .pick (.t 44) (.t 47) (.c (.bool false)), none⟩,
  ⟨some 49, .mv (.t 48), none⟩,
  ⟨some 50, .faddr 10 (.t 3), some (49, true)⟩,
  ⟨some 51, .load 1 false (.t 50), some (49, true)⟩,
  ⟨some 52, .len .slice (.t 51), some (49, true)⟩,
  ⟨some 53, .bin .eql (.t 52) (.c (.int .i64 (.ofNat 0))), some (49, true)⟩,
  ⟨some 54, .pick (.t 49) (.t 53) (.c (.bool false)), none⟩,
  ⟨some 55, .mv (.t 54), none⟩,
  ⟨some 56, .mv (.t 4), some (55, true)⟩,
  ⟨some 57, .bin .eql (.t 56) (.c (.int .i64 (.ofNat 0))), some (55, true)⟩,
  ⟨some 58, .pick (.t 55) (.t 57) (.c (.bool false)), none⟩,
  ⟨some 59, .mv (.t 58), none⟩,
  ⟨some 60, .mv (.t 5), some (59, true)⟩,
  ⟨some 61, .len .slice (.t 60), some (59, true)⟩,
  ⟨some 62, .bin .eql (.t 61) (.c (.int .i64 (.ofNat 1))), some (59, true)⟩,
  ⟨some 63, .pick (.t 59) (.t 62) (.c (.bool false)), none⟩,
  ⟨some 64, .mv (.t 63), none⟩,
  ⟨some 65, .mv (.t 5), some (64, true)⟩,
  ⟨some 66, .iaddr 7 (.t 65) (.c (.int .i64 (.ofNat 0))), some (64, true)⟩,
  ⟨some 67, .faddr 1 (.t 66), some (64, true)⟩,
  ⟨some 68, .load 1 false (.t 67), some (64, true)⟩,
  ⟨some 69, .bin .eql (.t 68) (.c (.int .i64 (.ofNat 2))), some (64, true)⟩,
  ⟨some 70, .pick (.t 64) (.t 69) (.c (.bool false)), none⟩,
  ⟨some 71, .mv (.t 70), none⟩,
  ⟨some 72, .mv (.t 6), some (71, true)⟩,
  ⟨some 73, .pick (.t 71) (.t 72) (.c (.bool false)), none⟩,
  ⟨some 74, .mv (.t 73), none⟩,
  ⟨some 75, .mv (.t 7), some (74, true)⟩,
  ⟨some 76, .bin .eql (.t 75) (.c (.int .i64 (.ofNat 0))), some (74, true)⟩,
  ⟨some 77, .pick (.t 74) (.t 76) (.c (.bool false)), none⟩,
  ⟨some 78, .mv (.t 77), none⟩,
  ⟨some 79, .mv (.t 9), some (78, true)⟩,
  ⟨some 80, .bin .eql (.t 79) (.c (.int .i64 (.ofNat 5))), some (78, true)⟩,
  ⟨some 81, .pick (.t 78) (.t 80) (.c (.bool false)), none⟩,
  ⟨some 82, .mv (.t 81), none⟩,
  ⟨some 83, .mv (.t 11), some (82, true)⟩,
  ⟨some 84, .bin .eql (.t 83) (.c (.int .i64 (.ofNat 4))), some (82, true)⟩,
  ⟨some 85, .pick (.t 82) (.t 84) (.c (.bool false)), none⟩,
  ⟨some 0, .mv (.t 85), none⟩]
def f395 : RFunc := ⟨[.t 0], (.seq (.region f395r0 []) (.seq (.region f395r1 [1, 2]) (.seq (.region f395r2 [1, 2, 3, 4]) (.seq (.region f395r3 [1, 2, 3, 4, 5, 6, 7]) (.seq (.region f395r4 [1, 2, 3, 4, 5, 6, 7, 9]) (.seq (.region f395r5 [1, 2, 3, 4, 5, 6, 7, 9, 11]) (.seq (.region f395r6 [0]) .ret))))))), true⟩

/-! quire/field.Fill -/
def f413r0 : List ROper := [
  ⟨some 4, .mv (.c (.str [])), none⟩,
  ⟨some 5, .mv (.c (.int .i64 (.ofNat 0))), none⟩]
def f413r1 : List ROper := [
  ⟨some 8, .mv (.t 0), none⟩,
  ⟨some 9, .len .str (.t 8), none⟩,
  ⟨some 10, .bin .gtr (.t 9) (.c (.int .i64 (.ofNat 100))), none⟩]
def f413r2 : List ROper := [
  ⟨some 4, .mv (.c (.str [])), none⟩,
  ⟨some 5, .mv (.c (.int .i64 (.ofNat 3))), none⟩]
def f413r3 : List ROper := [
  ⟨some 11, .mv (.t 0), none⟩,
  ⟨some 12, .s2b (.t 11), none⟩,
  ⟨some 13, .len .slice (.t 12), none⟩,
  ⟨some 14, .mv (.c (.int .i64 (.ofNat 0))), none⟩]
def f413r4 : List ROper := [
  ⟨some 15, .bin .lss (.t 14) (.t 13), none⟩]
def f413r5 : List ROper := [
  ⟨some 16, .iaddr 1 (.t 12) (.t 14), none⟩,
  ⟨some 17, .load 1 false (.t 16), none⟩,
  ⟨some 7, .mv (.t 17), none⟩]
def f413r6 : List ROper := [
  ⟨some 18, .mv (.t 7), none⟩,
  ⟨some 19, .call 438 [(.t 18)], none⟩,
  ⟨some 20, .un .not (.t 19), none⟩,
  ⟨some 21, .mv (.t 20), none⟩,
  ⟨some 22, .mv (.t 7), some (21, true)⟩,
  ⟨some 23, .bin .neq (.t 22) (.c (.int .u8 (.ofNat 3))), some (21, true)⟩,
  ⟨some 24, .pick (.t 21) (.t 23) (.c (.bool false)), none⟩]
def f413r7 : List ROper := [
  ⟨some 4, .mv (.c (.str [])), none⟩,
  ⟨some 5, .mv (.c (.int .i64 (.ofNat 4))), none⟩]
def f413r8 : List ROper := [
  ⟨some 25, .bin .add (.t 14) (.c (.int .i64 (.ofNat 1))), none⟩,
  ⟨some 14, .mv (.t 25), none⟩]
def f413r9 : List ROper := [
  ⟨some 26, .mv (.t 1), none⟩,
  ⟨some 27, .bin .lss (.t 26) (.c (.int .i64 (.ofNat 1))), none⟩,
  ⟨some 28, .mv (.t 27), none⟩,
  ⟨some 29, .mv (.t 1), some (28, false)⟩,
  ⟨some 30, .bin .gtr (.t 29) (.c (.int .i64 (.ofNat 4096))), some (28, false)⟩,
  ⟨some 31, .pick (.t 28) (.c (.bool true)) (.t 30), none⟩]
def f413r10 : List ROper := [
  ⟨some 4, .mv (.c (.str [])), none⟩,
  ⟨some 5, .mv (.c (.int .i64 (.ofNat 5))), none⟩]
def f413r11 : List ROper := [
  ⟨some 32, .mv (.t 0), none⟩,
  ⟨some 33, .mv (.t 1), none⟩,
  ⟨some 34, .call 439 [(.t 32), (.t 33)], none⟩,
  ⟨some 4, .mv (.t 34), none⟩,
  ⟨some 5, .mv (.c (.int .i64 (.ofNat 0))), none⟩]
def f413 : RFunc := ⟨[.t 4, .t 5], (.seq (.region f413r0 [0, 1]) (.seq (.seq (.region f413r1 [0, 1, 10]) (.cond (.t 10) (.seq (.region f413r2 [4, 5]) .ret) .skip)) (.seq (.seq (.region f413r3 [0, 1, 12, 13, 14]) (.block 0 (.loop [0, 1, 12, 13, 14] (.seq (.region f413r4 [0, 1, 12, 13, 14, 15]) (.seq (.cond (.t 15) .skip (.exit 0)) (.seq (.block 1 (.seq (.region f413r5 [0, 1, 7, 12, 13, 14]) (.seq (.region f413r6 [0, 1, 12, 13, 14, 24]) (.cond (.t 24) (.seq (.region f413r7 [4, 5]) .ret) .skip)))) (.region f413r8 [0, 1, 12, 13, 14]))))))) (.seq (.seq (.region f413r9 [0, 1, 31]) (.cond (.t 31) (.seq (.region f413r10 [4, 5]) .ret) .skip)) (.seq (.region f413r11 [4, 5]) .ret))))), true⟩

/-! quire/field.Of -/
def f414r0 : List ROper := [
  ⟨some 3, .box 17 (.t 0), none⟩,
  ⟨some 6, .alloc [(.str []), (.str []), (.int .i64 (.ofNat 0)), (.int .i64 (.ofNat 0)), (.int .i64 (.ofNat 0)), (.int .i64 (.ofNat 0)), (.int .i64 (.ofNat 0)), (.int .i64 (.ofNat 0)), (.int .i64 (.ofNat 0)), (.int .i64 (.ofNat 0)), (.list 0 0 .no false []), (.list 0 0 .no false []), (.bool false)], none⟩,
  ⟨some 7, .mv (.c (.int .i64 (.ofNat 0))), none⟩]
def f414r1 : List ROper := [
  ⟨some 13, .load 17 true (.t 3), none⟩,
  ⟨some 14, .mv (.t 1), none⟩,
  ⟨some 15, .mv (.t 2), none⟩,
  ⟨some 16, .call 440 [(.t 13), (.t 14), (.t 15)], none⟩,
  ⟨some 12, .mv (.t 16), none⟩,
  ⟨some 17, .extract (.t 12) 0, none⟩,
  ⟨some 18, .extract (.t 12) 1, none⟩,
  ⟨some 8, .mv (.t 17), none⟩,
  ⟨some 9, .mv (.t 18), none⟩]
def f414r2 : List ROper := [
  ⟨some 19, .mv (.t 9), none⟩,
  ⟨some 20, .bin .neq (.t 19) (.c (.int .i64 (.ofNat 0))), none⟩]
def f414r3 : List ROper := [
  ⟨some 21, .build [(.str []), (.str []), (.int .i64 (.ofNat 0)), (.int .i64 (.ofNat 0)), (.int .i64 (.ofNat 0)), (.int .i64 (.ofNat 0)), (.int .i64 (.ofNat 0)), (.int .i64 (.ofNat 0)), (.int .i64 (.ofNat 0)), (.int .i64 (.ofNat 0)), (.list 0 0 .no false []), (.list 0 0 .no false []), (.bool false)] [], none⟩,
  ⟨some 22, .mv (.t 9), none⟩,
  ⟨none, .store 13 (.t 6) (.t 21), none⟩,
  ⟨some 7, .mv (.t 22), none⟩]
def f414r4 : List ROper := [
  ⟨some 23, .mv (.t 8), none⟩,
  ⟨some 24, .faddr 11 (.t 3), none⟩,
  ⟨some 25, .iaddrA 1 3 (.t 24) (.t 23), none⟩,
  ⟨some 26, .load 1 false (.t 25), none⟩,
  ⟨some 27, .mv (.t 1), none⟩,
  ⟨some 28, .call 439 [(.t 26), (.t 27)], none⟩,
  ⟨some 29, .mv (.t 8), none⟩,
  ⟨some 30, .faddr 14 (.t 3), none⟩,
  ⟨some 31, .iaddrA 1 3 (.t 30) (.t 29), none⟩,
  ⟨some 32, .load 1 false (.t 31), none⟩,
  ⟨some 33, .mv (.t 1), none⟩,
  ⟨some 34, .call 439 [(.t 32), (.t 33)], none⟩,
  ⟨some 35, .build [(.str []), (.str []), (.int .i64 (.ofNat 0)), (.int .i64 (.ofNat 0)), (.int .i64 (.ofNat 0)), (.int .i64 (.ofNat 0)), (.int .i64 (.ofNat 0)), (.int .i64 (.ofNat 0)), (.int .i64 (.ofNat 0)), (.int .i64 (.ofNat 0)), (.list 0 0 .no false []), (.list 0 0 .no false []), (.bool false)] [(0, 1, (.t 28)), (1, 1, (.t 34))], none⟩,
  ⟨some 10, .alloc [(.str []), (.str []), (.int .i64 (.ofNat 0)), (.int .i64 (.ofNat 0)), (.int .i64 (.ofNat 0)), (.int .i64 (.ofNat 0)), (.int .i64 (.ofNat 0)), (.int .i64 (.ofNat 0)), (.int .i64 (.ofNat 0)), (.int .i64 (.ofNat 0)), (.list 0 0 .no false []), (.list 0 0 .no false []), (.bool false)], none⟩,
  ⟨none, .store 13 (.t 10) (.t 35), none⟩]
def f414r5 : List ROper := [
  ⟨some 37, .load 17 true (.t 3), none⟩,
  ⟨some 38, .mv (.t 1), none⟩,
  ⟨some 39, .call 441 [(.t 37), (.t 38)], none⟩,
  ⟨some 36, .mv (.t 39), none⟩,
  ⟨some 40, .extract (.t 36) 0, none⟩,
  ⟨some 41, .extract (.t 36) 1, none⟩,
  ⟨some 42, .faddr 2 (.t 10), none⟩,
  ⟨none, .store 4 (.t 42) (.t 40), none⟩]
def f414r6 : List ROper := [
  ⟨some 44, .load 17 true (.t 3), none⟩,
  ⟨some 45, .mv (.t 1), none⟩,
  ⟨some 46, .call 442 [(.t 44), (.t 45)], none⟩,
  ⟨some 43, .mv (.t 46), none⟩,
  ⟨some 47, .extract (.t 43) 0, none⟩,
  ⟨some 48, .extract (.t 43) 1, none⟩,
  ⟨some 49, .faddr 6 (.t 10), none⟩,
  ⟨none, .store 4 (.t 49) (.t 47), none⟩]
def f414r7 : List ROper := [
  ⟨some 50, .mkfn 443 [] [(.t 10)], none⟩,
  ⟨some 11, .mv (.t 50), none⟩]
def f414r8 : List ROper := [
  ⟨some 51, .mv (.t 11), none⟩,
  ⟨some 52, .faddr 0 (.t 10), none⟩,
  ⟨some 53, .load 1 false (.t 52), none⟩,
  ⟨some 54, .faddr 2 (.t 10), none⟩,
  ⟨some 55, .load 4 true (.t 54), none⟩,
  ⟨some 56, .callv (.t 51) [(.t 53), (.t 55)], none⟩,
  ⟨some 57, .faddr 10 (.t 10), none⟩,
  ⟨none, .store 1 (.t 57) (.t 56), none⟩]
def f414r9 : List ROper := [
  ⟨some 58, .mv (.t 11), none⟩,
  ⟨some 59, .faddr 1 (.t 10), none⟩,
  ⟨some 60, .load 1 false (.t 59), none⟩,
  ⟨some 61, .faddr 6 (.t 10), none⟩,
  ⟨some 62, .load 4 true (.t 61), none⟩,
  ⟨some 63, .callv (.t 58) [(.t 60), (.t 62)], none⟩,
  ⟨some 64, .faddr 11 (.t 10), none⟩,
  ⟨none, .store 1 (.t 64) (.t 63), none⟩]
def f414r10 : List ROper := [
  ⟨some 65, .load 13 true (.t 10), none⟩,
  ⟨none, .store 13 (.t 6) (.t 65), none⟩,
  ⟨some 7, .mv (.c (.int .i64 (.ofNat 0))), none⟩]
def f414 : RFunc := ⟨[.cell 6 13 true, .t 7], (.seq (.region f414r0 [1, 2, 3, 6]) (.seq (.region f414r1 [1, 3, 6, 8, 9]) (.seq (.seq (.region f414r2 [1, 3, 6, 8, 9, 20]) (.cond (.t 20) (.seq (.region f414r3 [6, 7]) .ret) .skip)) (.seq (.dregion f414r4 [] [(3, [1]), (5, [1]), (9, [1]), (11, [1])] [1, 3, 6, 10]) (.seq (.region f414r5 [1, 3, 6, 10]) (.seq (.region f414r6 [6, 10]) (.seq (.region f414r7 [6, 10, 11]) (.seq (.region f414r8 [6, 10, 11]) (.seq (.region f414r9 [6, 10]) (.seq (.region f414r10 [6, 7]) .ret)))))))))), true⟩

/-! quire/quirelaw26.numbered -/
def f415r0 : List ROper := [
  ⟨some 0, .alloc [(.int .i64 (.ofNat 0)), (.int .i64 (.ofNat 0)), (.int .i64 (.ofNat 0)), (.int .i64 (.ofNat 0)), (.int .i64 (.ofNat 0)), (.int .i64 (.ofNat 0)), (.int .i64 (.ofNat 0)), (.int .i64 (.ofNat 0)), (.int .i64 (.ofNat 0)), (.int .i64 (.ofNat 0)), (.int .i64 (.ofNat 0)), (.str []), (.str []), (.str []), (.str []), (.str []), (.str [])], none⟩]
def f415r1 : List ROper := [
  ⟨some 2, .call 444 [], none⟩,
  ⟨some 1, .alloc [(.int .i64 (.ofNat 0)), (.int .i64 (.ofNat 0)), (.int .i64 (.ofNat 0)), (.int .i64 (.ofNat 0)), (.int .i64 (.ofNat 0)), (.int .i64 (.ofNat 0)), (.int .i64 (.ofNat 0)), (.int .i64 (.ofNat 0)), (.int .i64 (.ofNat 0)), (.int .i64 (.ofNat 0)), (.int .i64 (.ofNat 0)), (.str []), (.str []), (.str []), (.str []), (.str []), (.str [])], none⟩,
  ⟨none, .store 17 (.t 1) (.t 2), none⟩]
def f415r2 : List ROper := [
  ⟨some 3, .faddr 11 (.t 1), none⟩,
  ⟨some 4, .iaddrA 1 3 (.t 3) (.c (.int .i64 (.ofNat 1))), none⟩,
  ⟨none, .store 1 (.t 4) (.c (.str [45, 32, 3, 32, 45])), none⟩]
def f415r3 : List ROper := [
  ⟨some 5, .load 17 true (.t 1), none⟩,
  ⟨none, .store 17 (.t 0) (.t 5), none⟩]
def f415 : RFunc := ⟨[.cell 0 17 true], (.seq (.region f415r0 [0]) (.seq (.region f415r1 [0, 1]) (.seq (.region f415r2 [0, 1]) (.seq (.region f415r3 [0]) .ret)))), true⟩

/-! quire/field.Lay -/
def f416r0 : List ROper := [
  ⟨some 3, .box 4 (.t 1), none⟩,
  ⟨some 4, .mv (.c (.list 0 0 .no false [])), none⟩,
  ⟨some 5, .mv (.c (.bool false)), none⟩,
  ⟨some 6, .mv (.c (.int .i64 (.ofNat 0))), none⟩]
def f416r1 : List ROper := [
  ⟨some 12, .mv (.t 0), none⟩,
  ⟨some 13, .len .str (.t 12), none⟩,
  ⟨some 14, .bin .gtr (.t 13) (.c (.int .i64 (.ofNat 4096))), none⟩]
def f416r2 : List ROper := [
  ⟨some 4, .mv (.c (.list 0 0 .no false [])), none⟩,
  ⟨some 5, .mv (.c (.bool false)), none⟩,
  ⟨some 6, .mv (.c (.int .i64 (.ofNat 3))), none⟩]
def f416r3 : List ROper := [
  ⟨some 15, .mv (.t 0), none⟩,
  ⟨some 16, .s2b (.t 15), none⟩,
  ⟨some 17, .len .slice (.t 16), none⟩,
  ⟨some 18, .mv (.c (.int .i64 (.ofNat 0))), none⟩]
def f416r4 : List ROper := [
  ⟨some 19, .bin .lss (.t 18) (.t 17), none⟩]
def f416r5 : List ROper := [
  ⟨some 20, .iaddr 1 (.t 16) (.t 18), none⟩,
  ⟨some 21, .load 1 false (.t 20), none⟩,
  ⟨some 8, .mv (.t 21), none⟩]
def f416r6 : List ROper := [
  ⟨some 22, .mv (.t 8), none⟩,
  ⟨some 23, .call 438 [(.t 22)], none⟩,
  ⟨some 24, .un .not (.t 23), none⟩]
def f416r7 : List ROper := [
  ⟨some 4, .mv (.c (.list 0 0 .no false [])), none⟩,
  ⟨some 5, .mv (.c (.bool false)), none⟩,
  ⟨some 6, .mv (.c (.int .i64 (.ofNat 4))), none⟩]
def f416r8 : List ROper := [
  ⟨some 25, .bin .add (.t 18) (.c (.int .i64 (.ofNat 1))), none⟩,
  ⟨some 18, .mv (.t 25), none⟩]
def f416r9 : List ROper := [
  ⟨some 26, .faddr 2 (.t 3), none⟩,
  ⟨some 27, .load 1 false (.t 26), none⟩,
  ⟨some 28, .call 445 [(.t 27)], none⟩,
  ⟨some 29, .un .not (.t 28), none⟩,
  ⟨some 30, .mv (.t 29), none⟩,
  ⟨some 31, .faddr 3 (.t 3), some (30, false)⟩,
  ⟨some 32, .load 1 false (.t 31), some (30, false)⟩,
  ⟨some 33, .call 445 [(.t 32)], some (30, false)⟩,
  ⟨some 34, .un .not (.t 33), some (30, false)⟩,
  ⟨some 35, .pick (.t 30) (.c (.bool true)) (.t 34), none⟩]
def f416r10 : List ROper := [
  ⟨some 4, .mv (.c (.list 0 0 .no false [])), none⟩,
  ⟨some 5, .mv (.c (.bool false)), none⟩,
  ⟨some 6, .mv (.c (.int .i64 (.ofNat 5))), none⟩]
def f416r11 : List ROper := [
  ⟨some 36, .mv (.t 0), none⟩,
  ⟨some 37, .bin .eql (.t 36) (.c (.str [])), none⟩]
def f416r12 : List ROper := [
  ⟨some 4, .mv (.c (.list 0 0 .no false [])), none⟩,
  ⟨some 5, .mv (.c (.bool false)), none⟩,
  ⟨some 6, .mv (.c (.int .i64 (.ofNat 0))), none⟩]
def f416r13 : List ROper := [
  ⟨some 39, .mv (.t 0), none⟩,
  ⟨some 40, .call 446 [(.t 39)], none⟩,
  ⟨some 41, .faddr 2 (.t 3), none⟩,
  ⟨some 42, .load 1 false (.t 41), none⟩,
  ⟨some 43, .build [(.int .i64 (.ofNat 0)), (.int .i64 (.ofNat 0))] [(1, 1, (.t 42))], none⟩,
  ⟨some 44, .call 307 [(.t 40), (.c (.list 0 0 .no false [])), (.t 43)], none⟩,
  ⟨some 38, .mv (.t 44), none⟩,
  ⟨some 45, .extract (.t 38) 0, none⟩,
  ⟨some 46, .extract (.t 38) 1, none⟩,
  ⟨some 9, .mv (.t 45), none⟩,
  ⟨some 10, .mv (.t 46), none⟩]
def f416r14 : List ROper := [
  ⟨some 47, .mv (.t 9), none⟩,
  ⟨some 48, .len .slice (.t 47), none⟩,
  ⟨some 49, .faddr 3 (.t 3), none⟩,
  ⟨some 50, .load 1 false (.t 49), none⟩,
  ⟨some 51, .bin .quo (.t 50) (.c (.int .i64 (.ofNat 10))), none⟩,
  ⟨some 52, .min [(.t 48), (.t 51)], none⟩,
  ⟨some 11, .mv (.t 52), none⟩]
def f416r15 : List ROper := [
  ⟨some 53, .mv (.t 9), none⟩,
  ⟨some 54, .mv (.t 11), none⟩,
  ⟨some 55, .mv (.t 11), none⟩,
  ⟨some 56, .slice false 7 (.t 53) none (some (.t 54)) (some (.t 55)), none⟩,
  ⟨some 57, .mv (.t 11), none⟩,
  ⟨some 58, .mv (.t 9), none⟩,
  ⟨some 59, .len .slice (.t 58), none⟩,
  ⟨some 60, .bin .lss (.t 57) (.t 59), none⟩,
  ⟨some 4, .mv (.t 56), none⟩,
  ⟨some 5, .mv (.t 60), none⟩,
  ⟨some 6, .mv (.c (.int .i64 (.ofNat 0))), none⟩]
def f416 : RFunc := ⟨[.t 4, .t 5, .t 6], (.seq (.region f416r0 [0, 3]) (.seq (.seq (.region f416r1 [0, 3, 14]) (.cond (.t 14) (.seq (.region f416r2 [4, 5, 6]) .ret) .skip)) (.seq (.seq (.region f416r3 [0, 3, 16, 17, 18]) (.block 0 (.loop [0, 3, 16, 17, 18] (.seq (.region f416r4 [0, 3, 16, 17, 18, 19]) (.seq (.cond (.t 19) .skip (.exit 0)) (.seq (.block 1 (.seq (.region f416r5 [0, 3, 8, 16, 17, 18]) (.seq (.region f416r6 [0, 3, 16, 17, 18, 24]) (.cond (.t 24) (.seq (.region f416r7 [4, 5, 6]) .ret) .skip)))) (.region f416r8 [0, 3, 16, 17, 18]))))))) (.seq (.seq (.region f416r9 [0, 3, 35]) (.cond (.t 35) (.seq (.region f416r10 [4, 5, 6]) .ret) .skip)) (.seq (.seq (.region f416r11 [0, 3, 37]) (.cond (.t 37) (.seq (.region f416r12 [4, 5, 6]) .ret) .skip)) (.seq (.dregion f416r13 [] [] [3, 9]) (.seq (.region f416r14 [9, 11]) (.seq (.region f416r15 [4, 5, 6]) .ret)))))))), true⟩

/-! quire/quirelaw26.awake -/
def f417r0 : List ROper := [
  ⟨some 0, .mv (.c (.bool false)), none⟩]
def f417r1 : List ROper := [
  ⟨some 4, .call 415 [], none⟩,
  ⟨some 5, .call 414 [(.t 4), (.c (.int .i64 (.ofNat 3))), (.c (.bool false))], none⟩,
  ⟨some 3, .mv (.t 5), none⟩,
  ⟨some 6, .extract (.t 3) 0, none⟩,
  ⟨some 7, .extract (.t 3) 1, none⟩,
  ⟨some 1, .alloc [(.str []), (.str []), (.int .i64 (.ofNat 0)), (.int .i64 (.ofNat 0)), (.int .i64 (.ofNat 0)), (.int .i64 (.ofNat 0)), (.int .i64 (.ofNat 0)), (.int .i64 (.ofNat 0)), (.int .i64 (.ofNat 0)), (.int .i64 (.ofNat 0)), (.list 0 0 .no false []), (.list 0 0 .no false []), (.bool false)], none⟩,
  ⟨none, .store 13 (.t 1) (.t 6), none⟩,
  ⟨some 2, .mv (.t 7), none⟩]
def f417r2 : List ROper := [
  ⟨some 8, .mv (.t 2), none⟩,
  ⟨some 9, .bin .eql (.t 8) (.c (.int .i64 (.ofNat 0))), none⟩,
  ⟨some 10, .mv (.t 9), none⟩,
  ⟨some 11, .faddr 0 (.t 1), some (10, true)⟩,
  ⟨some 12, .load 1 false (.t 11), some (10, true)⟩,
  ⟨some 13, .bin .eql (.t 12) (.c (.str [45, 32, 51, 32, 45])), some (10, true)⟩,
  ⟨some 14, .pick (.t 10) (.t 13) (.c (.bool false)), none⟩,
  ⟨some 15, .mv (.t 14), none⟩,
  ⟨some 16, .faddr 2 (.t 1), some (15, true)⟩,
  ⟨some 17, .load 4 true (.t 16), some (15, true)⟩,
  ⟨some 18, .build [(.int .i64 (.ofNat 0)), (.int .i64 (.ofNat 0)), (.int .i64 (.ofNat 0)), (.int .i64 (.ofNat 0))] [(0, 1, (.c (.int .i64 (.ofNat 30)))), (1, 1, (.c (.int .i64 (.ofNat 20)))), (2, 1, (.c (.int .i64 (.ofNat 240)))), (3, 1, (.c (.int .i64 (.ofNat 20))))], some (15, true)⟩,
  ⟨some 19, .eq (.agg [.int, .int, .int, .int]) false (.t 17) (.t 18), some (15, true)⟩,
  ⟨some 20, .pick (.t 15) (.t 19) (.c (.bool false)), none⟩,
  ⟨some 21, .mv (.t 20), none⟩,
  ⟨some 22, .faddr 10 (.t 1), some (21, true)⟩,
  ⟨some 23, .load 1 false (.t 22), some (21, true)⟩,
  ⟨some 24, .len .slice (.t 23), some (21, true)⟩,
  ⟨some 25, .bin .eql (.t 24) (.c (.int .i64 (.ofNat 1))), some (21, true)⟩,
  ⟨some 26, .pick (.t 21) (.t 25) (.c (.bool false)), none⟩,
  ⟨some 27, .mv (.t 26), none⟩,
  ⟨some 28, .faddr 10 (.t 1), some (27, true)⟩,
  ⟨some 29, .load 1 false (.t 28), some (27, true)⟩,
  ⟨some 30, .iaddr 7 (.t 29) (.c (.int .i64 (.ofNat 0))), some (27, true)⟩,
  ⟨some 31, .faddr 1 (.t 30), some (27, true)⟩,
  ⟨some 32, .load 1 false (.t 31), some (27, true)⟩,
  ⟨some 33, .bin .eql (.t 32) (.c (.int .i64 (.ofNat 5))), some (27, true)⟩,
  ⟨some 34, .pick (.t 27) (.t 33) (.c (.bool false)), none⟩,
  ⟨some 35, .mv (.t 34), none⟩,
  ⟨some 36, .faddr 10 (.t 1), some (35, true)⟩,
  ⟨some 37, .load 1 false (.t 36), some (35, true)⟩,
  ⟨some 38, .iaddr 7 (.t 37) (.c (.int .i64 (.ofNat 0))), some (35, true)⟩,
  ⟨some 39, .faddr 3 (.t 38), some (35, true)⟩,
  ⟨some 40, .load 1 false (.t 39), some (35, true)⟩,
  ⟨some 41, .bin .eql (.t 40) (.c (.int .i64 (.ofNat 240))), some (35, true)⟩,
  ⟨some 42, .pick (.t 35) (.t 41) (.c (.bool false)), none⟩,
  ⟨some 0, .mv (.t 42), none⟩]
def f417 : RFunc := ⟨[.t 0], (.seq (.region f417r0 []) (.seq (.region f417r1 [1, 2]) (.seq (.region f417r2 [0]) .ret))), true⟩

/-! quire/field.shows -/
def f438r0 : List ROper := [
  ⟨some 2, .mv (.c (.bool false)), none⟩]
def f438r1 : List ROper := [
  ⟨some 3, .mv (.t 0), none⟩,
  ⟨some 4, .bin .geq (.t 3) (.c (.int .u8 (.ofNat 32))), none⟩,
  ⟨some 5, .mv (.t 4), none⟩,
  ⟨some 6, .mv (.t 0), some (5, true)⟩,
  ⟨some 7, .bin .leq (.t 6) (.c (.int .u8 (.ofNat 126))), some (5, true)⟩,
  ⟨some 8, .pick (.t 5) (.t 7) (.c (.bool false)), none⟩,
  ⟨some 2, .mv (.t 8), none⟩]
def f438 : RFunc := ⟨[.t 2], (.seq (.region f438r0 [0]) (.seq (.region f438r1 [2]) .ret)), true⟩

/-! quire/field.filled -/
def f439r0 : List ROper := [
  ⟨some 4, .mv (.c (.str [])), none⟩]
def f439r1 : List ROper := [
  ⟨some 5, .allocT 173 [.nilp, (.list 0 0 .no false [])], none⟩]
def f439r2 : List ROper := [
  ⟨some 8, .mv (.t 0), none⟩,
  ⟨some 9, .s2b (.t 8), none⟩,
  ⟨some 10, .len .slice (.t 9), none⟩,
  ⟨some 11, .mv (.c (.int .i64 (.ofNat 0))), none⟩]
def f439r3 : List ROper := [
  ⟨some 12, .bin .lss (.t 11) (.t 10), none⟩]
def f439r4 : List ROper := [
  ⟨some 13, .iaddr 1 (.t 9) (.t 11), none⟩,
  ⟨some 14, .load 1 false (.t 13), none⟩,
  ⟨some 7, .mv (.t 14), none⟩]
def f439r5 : List ROper := [
  ⟨some 15, .mv (.t 7), none⟩,
  ⟨some 16, .bin .eql (.t 15) (.c (.int .u8 (.ofNat 3))), none⟩]
def f439r6 : List ROper := [
  ⟨some 17, .mv (.t 1), none⟩,
  ⟨some 18, .call 374 [(.t 17)], none⟩,
  ⟨some 19, .call 463 [(.t 5), (.t 18)], none⟩]
def f439r7 : List ROper := [
  ⟨some 20, .mv (.t 7), none⟩,
  ⟨some 21, .call 464 [(.t 5), (.t 20)], none⟩]
def f439r8 : List ROper := [
  ⟨some 22, .bin .add (.t 11) (.c (.int .i64 (.ofNat 1))), none⟩,
  ⟨some 11, .mv (.t 22), none⟩]
def f439r9 : List ROper := [
  ⟨some 23, .call 465 [(.t 5)], none⟩,
  ⟨some 4, .mv (.t 23), none⟩]
def f439 : RFunc := ⟨[.t 4], (.seq (.region f439r0 [0, 1]) (.seq (.region f439r1 [0, 1, 5]) (.seq (.seq (.region f439r2 [1, 5, 9, 10, 11]) (.block 0 (.loop [1, 5, 9, 10, 11] (.seq (.region f439r3 [1, 5, 9, 10, 11, 12]) (.seq (.cond (.t 12) .skip (.exit 0)) (.seq (.block 1 (.seq (.region f439r4 [1, 5, 7, 9, 10, 11]) (.seq (.region f439r5 [1, 5, 7, 9, 10, 11, 16]) (.cond (.t 16) (.region f439r6 [1, 5, 9, 10, 11]) (.region f439r7 [1, 5, 9, 10, 11]))))) (.region f439r8 [1, 5, 9, 10, 11]))))))) (.seq (.region f439r9 [4]) .ret)))), true⟩

/-! quire/section.Variant -/
def f440r0 : List ROper := [
  ⟨some 3, .box 17 (.t 0), none⟩,
  ⟨some 6, .mv (.c (.int .i64 (.ofNat 0))), none⟩,
  ⟨some 7, .mv (.c (.int .i64 (.ofNat 0))), none⟩]
def f440r1 : List ROper := [
  ⟨some 9, .load 17 true (.t 3), none⟩,
  ⟨some 10, .mv (.t 1), none⟩,
  ⟨some 11, .call 466 [(.t 9), (.t 10), (.c (.int .i64 (.ofNat 1)))], none⟩,
  ⟨some 8, .mv (.t 11), none⟩]
def f440r2 : List ROper := [
  ⟨some 12, .mv (.t 8), none⟩,
  ⟨some 13, .bin .neq (.t 12) (.c (.int .i64 (.ofNat 0))), none⟩]
def f440r3 : List ROper := [
  ⟨some 14, .mv (.t 8), none⟩,
  ⟨some 6, .mv (.c (.int .i64 (.ofNat 0))), none⟩,
  ⟨some 7, .mv (.t 14), none⟩]
def f440r4 : List ROper := [
  ⟨some 16, .mv (.t 2), none⟩,
  ⟨some 17, .mv (.t 16), none⟩,
  ⟨some 18, .faddr 11 (.t 3), some (17, true)⟩,
  ⟨some 19, .iaddrA 1 3 (.t 18) (.c (.int .i64 (.ofNat 0))), some (17, true)⟩,
  ⟨some 20, .load 1 false (.t 19), some (17, true)⟩,
  ⟨some 21, .bin .neq (.t 20) (.c (.str [])), some (17, true)⟩,
  ⟨some 22, .mv (.t 21), some (17, true)⟩,
  ⟨some 23, .faddr 14 (.t 3), some (22, false)⟩,
  ⟨some 24, .iaddrA 1 3 (.t 23) (.c (.int .i64 (.ofNat 0))), some (22, false)⟩,
  ⟨some 25, .load 1 false (.t 24), some (22, false)⟩,
  ⟨some 26, .bin .neq (.t 25) (.c (.str [])), some (22, false)⟩,
  ⟨some 27, .pick (.t 22) (.c (.bool true)) (.t 26), some (17, true)⟩,
  ⟨some 28, .pick (.t 17) (.t 27) (.c (.bool false)), none⟩,
  ⟨some 15, .mv (.t 28), none⟩]
def f440r5 : List ROper := [
  ⟨some 6, .mv (.c (.int .i64 (.ofNat 0))), none⟩,
  ⟨some 7, .mv (.c (.int .i64 (.ofNat 0))), none⟩]
def f440r6 : List ROper := [
  ⟨some 30, .mv (.t 1), none⟩,
  ⟨some 31, .bin .rem (.t 30) (.c (.int .i64 (.ofNat 2))), none⟩,
  ⟨some 32, .bin .eql (.t 31) (.c (.int .i64 (.ofNat 1))), none⟩,
  ⟨some 29, .mv (.t 32), none⟩]
def f440r7 : List ROper := [
  ⟨some 6, .mv (.c (.int .i64 (.ofNat 1))), none⟩,
  ⟨some 7, .mv (.c (.int .i64 (.ofNat 0))), none⟩]
def f440r8 : List ROper := [
  ⟨some 6, .mv (.c (.int .i64 (.ofNat 2))), none⟩,
  ⟨some 7, .mv (.c (.int .i64 (.ofNat 0))), none⟩]
def f440 : RFunc := ⟨[.t 6, .t 7], (.seq (.region f440r0 [1, 2, 3]) (.seq (.seq (.region f440r1 [1, 2, 3, 8]) (.seq (.region f440r2 [1, 2, 3, 8, 13]) (.cond (.t 13) (.seq (.region f440r3 [6, 7]) .ret) .skip))) (.seq (.block 0 (.seq (.region f440r4 [1, 15]) (.cond (.t 15) (.seq (.region f440r5 [6, 7]) .ret) (.seq (.region f440r6 [29]) (.cond (.t 29) (.seq (.region f440r7 [6, 7]) .ret) .skip))))) (.seq (.region f440r8 [6, 7]) .ret)))), true⟩

/-! quire/section.Head -/
def f441r0 : List ROper := [
  ⟨some 2, .box 17 (.t 0), none⟩,
  ⟨some 4, .alloc [(.int .i64 (.ofNat 0)), (.int .i64 (.ofNat 0)), (.int .i64 (.ofNat 0)), (.int .i64 (.ofNat 0))], none⟩,
  ⟨some 5, .mv (.c (.int .i64 (.ofNat 0))), none⟩]
def f441r1 : List ROper := [
  ⟨some 7, .load 17 true (.t 2), none⟩,
  ⟨some 8, .mv (.t 1), none⟩,
  ⟨some 9, .call 466 [(.t 7), (.t 8), (.c (.int .i64 (.ofNat 1)))], none⟩,
  ⟨some 6, .mv (.t 9), none⟩]
def f441r2 : List ROper := [
  ⟨some 10, .mv (.t 6), none⟩,
  ⟨some 11, .bin .neq (.t 10) (.c (.int .i64 (.ofNat 0))), none⟩]
def f441r3 : List ROper := [
  ⟨some 12, .build [(.int .i64 (.ofNat 0)), (.int .i64 (.ofNat 0)), (.int .i64 (.ofNat 0)), (.int .i64 (.ofNat 0))] [], none⟩,
  ⟨some 13, .mv (.t 6), none⟩,
  ⟨none, .store 4 (.t 4) (.t 12), none⟩,
  ⟨some 5, .mv (.t 13), none⟩]
def f441r4 : List ROper := [
  ⟨some 14, .load 17 true (.t 2), none⟩,
  ⟨some 15, .mv (.t 1), none⟩,
  ⟨some 16, .faddr 2 (.t 2), none⟩,
  ⟨some 17, .load 1 false (.t 16), none⟩,
  ⟨some 18, .bin .quo (.t 17) (.c (.int .i64 (.ofNat 2))), none⟩,
  ⟨some 19, .faddr 2 (.t 2), none⟩,
  ⟨some 20, .load 1 false (.t 19), none⟩,
  ⟨some 21, .faddr 2 (.t 2), none⟩,
  ⟨some 22, .load 1 false (.t 21), none⟩,
  ⟨some 23, .bin .quo (.t 22) (.c (.int .i64 (.ofNat 2))), none⟩,
  ⟨some 24, .bin .sub (.t 20) (.t 23), none⟩,
  ⟨some 25, .call 467 [(.t 14), (.t 15), (.t 18), (.t 24)], none⟩,
  ⟨none, .store 4 (.t 4) (.t 25), none⟩,
  ⟨some 5, .mv (.c (.int .i64 (.ofNat 0))), none⟩]
def f441 : RFunc := ⟨[.cell 4 4 true, .t 5], (.seq (.region f441r0 [1, 2, 4]) (.seq (.seq (.region f441r1 [1, 2, 4, 6]) (.seq (.region f441r2 [1, 2, 4, 6, 11]) (.cond (.t 11) (.seq (.region f441r3 [4, 5]) .ret) .skip))) (.seq (.region f441r4 [4, 5]) .ret))), true⟩

/-! quire/section.Foot -/
def f442r0 : List ROper := [
  ⟨some 2, .box 17 (.t 0), none⟩,
  ⟨some 4, .alloc [(.int .i64 (.ofNat 0)), (.int .i64 (.ofNat 0)), (.int .i64 (.ofNat 0)), (.int .i64 (.ofNat 0))], none⟩,
  ⟨some 5, .mv (.c (.int .i64 (.ofNat 0))), none⟩]
def f442r1 : List ROper := [
  ⟨some 7, .load 17 true (.t 2), none⟩,
  ⟨some 8, .mv (.t 1), none⟩,
  ⟨some 9, .call 466 [(.t 7), (.t 8), (.c (.int .i64 (.ofNat 1)))], none⟩,
  ⟨some 6, .mv (.t 9), none⟩]
def f442r2 : List ROper := [
  ⟨some 10, .mv (.t 6), none⟩,
  ⟨some 11, .bin .neq (.t 10) (.c (.int .i64 (.ofNat 0))), none⟩]
def f442r3 : List ROper := [
  ⟨some 12, .build [(.int .i64 (.ofNat 0)), (.int .i64 (.ofNat 0)), (.int .i64 (.ofNat 0)), (.int .i64 (.ofNat 0))] [], none⟩,
  ⟨some 13, .mv (.t 6), none⟩,
  ⟨none, .store 4 (.t 4) (.t 12), none⟩,
  ⟨some 5, .mv (.t 13), none⟩]
def f442r4 : List ROper := [
  ⟨some 14, .load 17 true (.t 2), none⟩,
  ⟨some 15, .mv (.t 1), none⟩,
  ⟨some 16, .faddr 1 (.t 2), none⟩,
  ⟨some 17, .load 1 false (.t 16), none⟩,
  ⟨some 18, .faddr 3 (.t 2), none⟩,
  ⟨some 19, .load 1 false (.t 18), none⟩,
  ⟨some 20, .bin .sub (.t 17) (.t 19), none⟩,
  ⟨some 21, .faddr 3 (.t 2), none⟩,
  ⟨some 22, .load 1 false (.t 21), none⟩,
  ⟨some 23, .bin .quo (.t 22) (.c (.int .i64 (.ofNat 2))), none⟩,
  ⟨some 24, .call 467 [(.t 14), (.t 15), (.t 20), (.t 23)], none⟩,
  ⟨none, .store 4 (.t 4) (.t 24), none⟩,
  ⟨some 5, .mv (.c (.int .i64 (.ofNat 0))), none⟩]
def f442 : RFunc := ⟨[.cell 4 4 true, .t 5], (.seq (.region f442r0 [1, 2, 4]) (.seq (.seq (.region f442r1 [1, 2, 4, 6]) (.seq (.region f442r2 [1, 2, 4, 6, 11]) (.cond (.t 11) (.seq (.region f442r3 [4, 5]) .ret) .skip))) (.seq (.region f442r4 [4, 5]) .ret))), true⟩

/-! quire/field.Of$1 -/
def f443r0 : List ROper := [
  ⟨some 4, .box 4 (.t 1), none⟩,
  ⟨some 5, .mv (.c (.list 0 0 .no false [])), none⟩]
def f443r1 : List ROper := [
  ⟨some 10, .mv (.t 0), none⟩,
  ⟨some 11, .load 4 true (.t 4), none⟩,
  ⟨some 12, .call 416 [(.t 10), (.t 11)], none⟩,
  ⟨some 9, .mv (.t 12), none⟩,
  ⟨some 13, .extract (.t 9) 0, none⟩,
  ⟨some 14, .extract (.t 9) 1, none⟩,
  ⟨some 15, .extract (.t 9) 2, none⟩,
  ⟨some 6, .mv (.t 13), none⟩,
  ⟨some 7, .mv (.t 14), none⟩,
  ⟨some 8, .mv (.t 15), none⟩]
def f443r2 : List ROper := [
  ⟨some 16, .faddr 12 (.t 2), none⟩,
  ⟨some 17, .load 1 false (.t 16), none⟩,
  ⟨some 18, .mv (.t 17), none⟩,
  ⟨some 19, .mv (.t 7), some (18, false)⟩,
  ⟨some 20, .pick (.t 18) (.c (.bool true)) (.t 19), none⟩,
  ⟨some 21, .faddr 12 (.t 2), none⟩,
  ⟨none, .store 1 (.t 21) (.t 20), none⟩]
def f443r3 : List ROper := [
  ⟨some 22, .mv (.t 6), none⟩,
  ⟨some 5, .mv (.t 22), none⟩]
def f443 : RFunc := ⟨[.t 5], (.seq (.region f443r0 [0, 2, 4]) (.seq (.region f443r1 [2, 6, 7]) (.seq (.region f443r2 [6]) (.seq (.region f443r3 [5]) .ret)))), false⟩

/-! quire/section.Plain -/
def f444r0 : List ROper := [
  ⟨some 0, .alloc [(.int .i64 (.ofNat 0)), (.int .i64 (.ofNat 0)), (.int .i64 (.ofNat 0)), (.int .i64 (.ofNat 0)), (.int .i64 (.ofNat 0)), (.int .i64 (.ofNat 0)), (.int .i64 (.ofNat 0)), (.int .i64 (.ofNat 0)), (.int .i64 (.ofNat 0)), (.int .i64 (.ofNat 0)), (.int .i64 (.ofNat 0)), (.str []), (.str []), (.str []), (.str []), (.str []), (.str [])], none⟩]
def f444r1 : List ROper := [
  ⟨some 1, .build [(.int .i64 (.ofNat 0)), (.int .i64 (.ofNat 0)), (.int .i64 (.ofNat 0)), (.int .i64 (.ofNat 0)), (.int .i64 (.ofNat 0)), (.int .i64 (.ofNat 0)), (.int .i64 (.ofNat 0)), (.int .i64 (.ofNat 0)), (.int .i64 (.ofNat 0)), (.int .i64 (.ofNat 0)), (.int .i64 (.ofNat 0)), (.str []), (.str []), (.str []), (.str []), (.str []), (.str [])] [(0, 1, (.c (.int .i64 (.ofNat 300)))), (1, 1, (.c (.int .i64 (.ofNat 400)))), (2, 1, (.c (.int .i64 (.ofNat 40)))), (3, 1, (.c (.int .i64 (.ofNat 40)))), (4, 1, (.c (.int .i64 (.ofNat 30)))), (5, 1, (.c (.int .i64 (.ofNat 30)))), (6, 1, (.c (.int .i64 (.ofNat 1)))), (7, 1, (.c (.int .i64 (.ofNat 10))))], none⟩,
  ⟨none, .store 17 (.t 0) (.t 1), none⟩]
def f444 : RFunc := ⟨[.cell 0 17 true], (.seq (.region f444r0 [0]) (.seq (.region f444r1 [0]) .ret)), true⟩

/-! quire/field.length -/
def f445r0 : List ROper := [
  ⟨some 2, .mv (.c (.bool false)), none⟩]
def f445r1 : List ROper := [
  ⟨some 3, .mv (.t 0), none⟩,
  ⟨some 4, .bin .geq (.t 3) (.c (.int .i64 (.ofNat 0))), none⟩,
  ⟨some 5, .mv (.t 4), none⟩,
  ⟨some 6, .mv (.t 0), some (5, true)⟩,
  ⟨some 7, .bin .leq (.t 6) (.c (.int .i64 (.ofNat 4095))), some (5, true)⟩,
  ⟨some 8, .pick (.t 5) (.t 7) (.c (.bool false)), none⟩,
  ⟨some 2, .mv (.t 8), none⟩]
def f445 : RFunc := ⟨[.t 2], (.seq (.region f445r0 [0]) (.seq (.region f445r1 [2]) .ret)), true⟩

/-! quire/field.Para -/
def f446r0 : List ROper := [
  ⟨some 2, .alloc [(.str []), (.list 0 0 .no false []), (.int .i64 (.ofNat 0)), (.int .i64 (.ofNat 0)), (.int .i64 (.ofNat 0)), (.int .i64 (.ofNat 0)), (.int .i64 (.ofNat 0)), (.int .i64 (.ofNat 0)), (.int .i64 (.ofNat 0)), (.int .i64 (.ofNat 0)), (.int .i64 (.ofNat 0)), (.int .i64 (.ofNat 0)), (.int .i64 (.ofNat 0)), (.int .i64 (.ofNat 0)), (.int .i64 (.ofNat 0)), (.int .i64 (.ofNat 0)), (.int .i64 (.ofNat 0)), (.int .i64 (.ofNat 0)), (.int .i64 (.ofNat 0)), (.str []), (.list 0 0 .no false [])], none⟩]
def f446r1 : List ROper := [
  ⟨some 4, .mv (.t 0), none⟩,
  ⟨some 5, .build [(.int .i64 (.ofNat 0)), (.int .i64 (.ofNat 0)), (.int .i64 (.ofNat 0)), (.int .i64 (.ofNat 0)), (.int .i64 (.ofNat 0)), (.int .i64 (.ofNat 0)), (.int .i64 (.ofNat 0)), (.int .i64 (.ofNat 0)), (.int .i64 (.ofNat 0)), (.int .i64 (.ofNat 0)), (.int .i64 (.ofNat 0)), (.int .i64 (.ofNat 0)), (.int .i64 (.ofNat 0)), (.int .i64 (.ofNat 0)), (.int .i64 (.ofNat 0)), (.int .i64 (.ofNat 0)), (.int .i64 (.ofNat 0))] [(0, 1, (.c (.int .i64 (.ofNat 8)))), (1, 1, (.c (.int .i64 (.ofNat 10)))), (2, 1, (.c (.int .i64 (.ofNat 3)))), (10, 1, (.c (.int .i64 (.ofNat 1)))), (11, 1, (.c (.int .i64 (.ofNat 1))))], none⟩,
  ⟨some 6, .build [(.str []), (.list 0 0 .no false []), (.int .i64 (.ofNat 0)), (.int .i64 (.ofNat 0)), (.int .i64 (.ofNat 0)), (.int .i64 (.ofNat 0)), (.int .i64 (.ofNat 0)), (.int .i64 (.ofNat 0)), (.int .i64 (.ofNat 0)), (.int .i64 (.ofNat 0)), (.int .i64 (.ofNat 0)), (.int .i64 (.ofNat 0)), (.int .i64 (.ofNat 0)), (.int .i64 (.ofNat 0)), (.int .i64 (.ofNat 0)), (.int .i64 (.ofNat 0)), (.int .i64 (.ofNat 0)), (.int .i64 (.ofNat 0)), (.int .i64 (.ofNat 0)), (.str []), (.list 0 0 .no false [])] [(0, 1, (.t 4)), (2, 17, (.t 5))], none⟩,
  ⟨some 3, .alloc [(.str []), (.list 0 0 .no false []), (.int .i64 (.ofNat 0)), (.int .i64 (.ofNat 0)), (.int .i64 (.ofNat 0)), (.int .i64 (.ofNat 0)), (.int .i64 (.ofNat 0)), (.int .i64 (.ofNat 0)), (.int .i64 (.ofNat 0)), (.int .i64 (.ofNat 0)), (.int .i64 (.ofNat 0)), (.int .i64 (.ofNat 0)), (.int .i64 (.ofNat 0)), (.int .i64 (.ofNat 0)), (.int .i64 (.ofNat 0)), (.int .i64 (.ofNat 0)), (.int .i64 (.ofNat 0)), (.int .i64 (.ofNat 0)), (.int .i64 (.ofNat 0)), (.str []), (.list 0 0 .no false [])], none⟩,
  ⟨none, .store 21 (.t 3) (.t 6), none⟩]
def f446r2 : List ROper := [
  ⟨some 7, .mv (.t 0), none⟩,
  ⟨some 8, .bin .neq (.t 7) (.c (.str [])), none⟩]
def f446r3 : List ROper := [
  ⟨some 9, .mv (.t 0), none⟩,
  ⟨some 10, .len .str (.t 9), none⟩,
  ⟨some 11, .build [(.int .i64 (.ofNat 0)), (.int .i64 (.ofNat 0)), (.int .i64 (.ofNat 0)), (.int .i64 (.ofNat 0))] [(0, 1, (.t 10))], none⟩,
  ⟨some 12, .lit 4 true [(.int .i64 (.ofNat 0)), (.int .i64 (.ofNat 0)), (.int .i64 (.ofNat 0)), (.int .i64 (.ofNat 0))] 1 [(0, (.t 11))], none⟩,
  ⟨some 13, .faddr 1 (.t 3), none⟩,
  ⟨none, .store 1 (.t 13) (.t 12), none⟩]
def f446r4 : List ROper := [
  ⟨some 14, .load 21 true (.t 3), none⟩,
  ⟨none, .store 21 (.t 2) (.t 14), none⟩]
def f446 : RFunc := ⟨[.cell 2 21 true], (.seq (.region f446r0 [0, 2]) (.seq (.region f446r1 [0, 2, 3]) (.seq (.seq (.region f446r2 [0, 2, 3, 8]) (.cond (.t 8) (.region f446r3 [2, 3]) .skip)) (.seq (.region f446r4 [2]) .ret)))), true⟩

/-! (*strings.Builder).WriteString -/
def f463r0 : List ROper := [
  ⟨some 4, .mv (.c (.int .i64 (.ofNat 0))), none⟩,
  ⟨some 5, .mv (.c .niliface), none⟩]
def f463r1 : List ROper := [
  ⟨some 6, .mv (.t 0), none⟩,
  ⟨some 7, .call 472 [(.t 6)], none⟩]
def f463r2 : List ROper := [
  ⟨some 8, .mv (.t 0), none⟩,
  ⟨some 9, .mv (.t 0), none⟩,
  ⟨some 10, .nilchk (.t 9), none⟩,
  ⟨some 11, .faddr 1 (.t 10), none⟩,
  ⟨some 12, .load 1 false (.t 11), none⟩,
  ⟨some 13, .mv (.t 1), none⟩,
  ⟨some 14, .appendB 5 1 (.t 12) (.t 13), none⟩,
  ⟨some 15, .nilchk (.t 8), none⟩,
  ⟨some 16, .faddr 1 (.t 15), none⟩,
  ⟨none, .store 1 (.t 16) (.t 14), none⟩]
def f463r3 : List ROper := [
  ⟨some 17, .mv (.t 1), none⟩,
  ⟨some 18, .len .str (.t 17), none⟩,
  ⟨some 4, .mv (.t 18), none⟩,
  ⟨some 5, .mv (.c .niliface), none⟩]
def f463 : RFunc := ⟨[.t 4, .t 5], (.seq (.region f463r0 [0, 1]) (.seq (.region f463r1 [0, 1]) (.seq (.region f463r2 [1]) (.seq (.region f463r3 [4, 5]) .ret)))), false⟩

/-! (*strings.Builder).WriteByte -/
def f464r0 : List ROper := [
  ⟨some 4, .mv (.c .niliface), none⟩]
def f464r1 : List ROper := [
  ⟨some 5, .mv (.t 0), none⟩,
  ⟨some 6, .call 472 [(.t 5)], none⟩]
def f464r2 : List ROper := [
  ⟨some 7, .mv (.t 0), none⟩,
  ⟨some 8, .mv (.t 0), none⟩,
  ⟨some 9, .nilchk (.t 8), none⟩,
  ⟨some 10, .faddr 1 (.t 9), none⟩,
  ⟨some 11, .load 1 false (.t 10), none⟩,
  ⟨some 12, .mv (.t 1), none⟩,
  ⟨some 13, .lit 1 false [(.int .u8 (.ofNat 0))] 1 [(0, (.t 12))], none⟩,
  ⟨some 14, .appendB 5 1 (.t 11) (.t 13), none⟩,
  ⟨some 15, .nilchk (.t 7), none⟩,
  ⟨some 16, .faddr 1 (.t 15), none⟩,
  ⟨none, .store 1 (.t 16) (.t 14), none⟩]
def f464r3 : List ROper := [
  ⟨some 4, .mv (.c .niliface), none⟩]
def f464 : RFunc := ⟨[.t 4], (.seq (.region f464r0 [0, 1]) (.seq (.region f464r1 [0, 1]) (.seq (.region f464r2 []) (.seq (.region f464r3 [4]) .ret)))), false⟩

/-! (*strings.Builder).String -/
def f465r0 : List ROper := [
  ⟨some 2, .mv (.c (.str [])), none⟩]
def f465r1 : List ROper := [
  ⟨some 3, .mv (.t 0), none⟩,
  ⟨some 4, .nilchk (.t 3), none⟩,
  ⟨some 5, .faddr 1 (.t 4), none⟩,
  ⟨some 6, .load 1 false (.t 5), none⟩,
  ⟨some 7, .sldata (.t 6), none⟩,
  ⟨some 8, .mv (.t 0), none⟩,
  ⟨some 9, .nilchk (.t 8), none⟩,
  ⟨some 10, .faddr 1 (.t 9), none⟩,
  ⟨some 11, .load 1 false (.t 10), none⟩,
  ⟨some 12, .len .slice (.t 11), none⟩,
  ⟨some 13, .ustr 5 (.t 7) (.t 12), none⟩,
  ⟨some 2, .mv (.t 13), none⟩]
def f465 : RFunc := ⟨[.t 2], (.seq (.region f465r0 [0]) (.seq (.dregion f465r1 [] [] [2]) .ret)), false⟩

/-! quire/section.page -/
def f466r0 : List ROper := [
  ⟨some 3, .box 17 (.t 0), none⟩,
  ⟨some 6, .mv (.c (.int .i64 (.ofNat 0))), none⟩]
def f466r1 : List ROper := [
  ⟨some 8, .load 17 true (.t 3), none⟩,
  ⟨some 9, .call 473 [(.t 8)], none⟩,
  ⟨some 7, .mv (.t 9), none⟩]
def f466r2 : List ROper := [
  ⟨some 10, .mv (.t 7), none⟩,
  ⟨some 11, .bin .neq (.t 10) (.c (.int .i64 (.ofNat 0))), none⟩]
def f466r3 : List ROper := [
  ⟨some 12, .mv (.t 7), none⟩,
  ⟨some 6, .mv (.t 12), none⟩]
def f466r4 : List ROper := [
  ⟨some 13, .mv (.t 1), none⟩,
  ⟨some 14, .mv (.t 2), none⟩,
  ⟨some 15, .bin .lss (.t 13) (.t 14), none⟩,
  ⟨some 16, .mv (.t 15), none⟩,
  ⟨some 17, .mv (.t 1), some (16, false)⟩,
  ⟨some 18, .bin .gtr (.t 17) (.c (.int .i64 (.ofNat 4096))), some (16, false)⟩,
  ⟨some 19, .pick (.t 16) (.c (.bool true)) (.t 18), none⟩]
def f466r5 : List ROper := [
  ⟨some 6, .mv (.c (.int .i64 (.ofNat 5))), none⟩]
def f466r6 : List ROper := [
  ⟨some 6, .mv (.c (.int .i64 (.ofNat 0))), none⟩]
def f466 : RFunc := ⟨[.t 6], (.seq (.region f466r0 [1, 2, 3]) (.seq (.seq (.region f466r1 [1, 2, 7]) (.seq (.region f466r2 [1, 2, 7, 11]) (.cond (.t 11) (.seq (.region f466r3 [6]) .ret) .skip))) (.seq (.seq (.region f466r4 [19]) (.cond (.t 19) (.seq (.region f466r5 [6]) .ret) .skip)) (.seq (.region f466r6 [6]) .ret)))), true⟩

/-! quire/section.across -/
def f467r0 : List ROper := [
  ⟨some 4, .box 17 (.t 0), none⟩,
  ⟨some 8, .alloc [(.int .i64 (.ofNat 0)), (.int .i64 (.ofNat 0)), (.int .i64 (.ofNat 0)), (.int .i64 (.ofNat 0))], none⟩]
def f467r1 : List ROper := [
  ⟨some 9, .load 17 true (.t 4), none⟩,
  ⟨some 10, .mv (.t 1), none⟩,
  ⟨some 11, .call 474 [(.t 9), (.t 10)], none⟩,
  ⟨some 12, .mv (.t 2), none⟩,
  ⟨some 13, .load 17 true (.t 4), none⟩,
  ⟨some 14, .call 475 [(.t 13)], none⟩,
  ⟨some 15, .faddr 6 (.t 4), none⟩,
  ⟨some 16, .load 1 false (.t 15), none⟩,
  ⟨some 17, .bin .mul (.t 14) (.t 16), none⟩,
  ⟨some 18, .faddr 7 (.t 4), none⟩,
  ⟨some 19, .load 1 false (.t 18), none⟩,
  ⟨some 20, .faddr 6 (.t 4), none⟩,
  ⟨some 21, .load 1 false (.t 20), none⟩,
  ⟨some 22, .bin .sub (.t 21) (.c (.int .i64 (.ofNat 1))), none⟩,
  ⟨some 23, .bin .mul (.t 19) (.t 22), none⟩,
  ⟨some 24, .bin .add (.t 17) (.t 23), none⟩,
  ⟨some 25, .mv (.t 3), none⟩,
  ⟨some 26, .build [(.int .i64 (.ofNat 0)), (.int .i64 (.ofNat 0)), (.int .i64 (.ofNat 0)), (.int .i64 (.ofNat 0))] [(0, 1, (.t 11)), (1, 1, (.t 12)), (2, 1, (.t 24)), (3, 1, (.t 25))], none⟩,
  ⟨none, .store 4 (.t 8) (.t 26), none⟩]
def f467 : RFunc := ⟨[.cell 8 4 true], (.seq (.region f467r0 [1, 2, 3, 4, 8]) (.seq (.dregion f467r1 [] [] [8]) .ret)), true⟩

/-! (*strings.Builder).copyCheck -/
def f472r0 : List ROper := [
  ⟨some 2, .mv (.t 0), none⟩,
  ⟨some 3, .nilchk (.t 2), none⟩,
  ⟨some 4, .faddr 0 (.t 3), none⟩,
  ⟨some 5, .load 1 false (.t 4), none⟩,
  ⟨some 6, .eq .ptr false (.t 5) (.c .nilp), none⟩]
def f472r1 : List ROper := [
  ⟨some 7, .mv (.t 0), none⟩,
  ⟨some 8, .mv (.t 0), none⟩,
  ⟨some 9, .conv 173 2 (.t 8), none⟩,
  ⟨some 10, .call 478 [(.t 9)], none⟩,
  ⟨some 11, .conv 173 2 (.t 10), none⟩,
  ⟨some 12, .nilchk (.t 7), none⟩,
  ⟨some 13, .faddr 0 (.t 12), none⟩,
  ⟨none, .store 1 (.t 13) (.t 11), none⟩]
def f472r2 : List ROper := [
  ⟨some 14, .mv (.t 0), none⟩,
  ⟨some 15, .nilchk (.t 14), none⟩,
  ⟨some 16, .faddr 0 (.t 15), none⟩,
  ⟨some 17, .load 1 false (.t 16), none⟩,
  ⟨some 18, .mv (.t 0), none⟩,
  ⟨some 19, .eq .ptr true (.t 17) (.t 18), none⟩]
def f472 : RFunc := ⟨[], (.seq (.region f472r0 [0, 6]) (.cond (.t 6) (.region f472r1 []) (.seq (.region f472r2 [19]) (.cond (.t 19) .stuck .skip)))), false⟩

/-! quire/section.Check -/
def f473r0 : List ROper := [
  ⟨some 1, .box 17 (.t 0), none⟩,
  ⟨some 2, .mv (.c (.int .i64 (.ofNat 0))), none⟩]
def f473r1 : List ROper := [
  ⟨some 5, .faddr 0 (.t 1), none⟩,
  ⟨some 6, .load 1 false (.t 5), none⟩,
  ⟨some 7, .build [(.int .i64 (.ofNat 0)), (.int .i64 (.ofNat 0)), (.int .i64 (.ofNat 0)), (.int .i64 (.ofNat 0))] [(0, 1, (.t 6)), (1, 1, (.c (.int .i64 (.ofNat 1)))), (2, 1, (.c (.int .i64 (.ofNat 4095)))), (3, 1, (.c (.int .i64 (.ofNat 5))))], none⟩,
  ⟨some 8, .faddr 1 (.t 1), none⟩,
  ⟨some 9, .load 1 false (.t 8), none⟩,
  ⟨some 10, .build [(.int .i64 (.ofNat 0)), (.int .i64 (.ofNat 0)), (.int .i64 (.ofNat 0)), (.int .i64 (.ofNat 0))] [(0, 1, (.t 9)), (1, 1, (.c (.int .i64 (.ofNat 1)))), (2, 1, (.c (.int .i64 (.ofNat 4095)))), (3, 1, (.c (.int .i64 (.ofNat 5))))], none⟩,
  ⟨some 11, .faddr 2 (.t 1), none⟩,
  ⟨some 12, .load 1 false (.t 11), none⟩,
  ⟨some 13, .build [(.int .i64 (.ofNat 0)), (.int .i64 (.ofNat 0)), (.int .i64 (.ofNat 0)), (.int .i64 (.ofNat 0))] [(0, 1, (.t 12)), (1, 1, (.c (.int .i64 (.ofNat 0)))), (2, 1, (.c (.int .i64 (.ofNat 4095)))), (3, 1, (.c (.int .i64 (.ofNat 5))))], none⟩,
  ⟨some 14, .faddr 3 (.t 1), none⟩,
  ⟨some 15, .load 1 false (.t 14), none⟩,
  ⟨some 16, .build [(.int .i64 (.ofNat 0)), (.int .i64 (.ofNat 0)), (.int .i64 (.ofNat 0)), (.int .i64 (.ofNat 0))] [(0, 1, (.t 15)), (1, 1, (.c (.int .i64 (.ofNat 0)))), (2, 1, (.c (.int .i64 (.ofNat 4095)))), (3, 1, (.c (.int .i64 (.ofNat 5))))], none⟩,
  ⟨some 17, .faddr 4 (.t 1), none⟩,
  ⟨some 18, .load 1 false (.t 17), none⟩,
  ⟨some 19, .build [(.int .i64 (.ofNat 0)), (.int .i64 (.ofNat 0)), (.int .i64 (.ofNat 0)), (.int .i64 (.ofNat 0))] [(0, 1, (.t 18)), (1, 1, (.c (.int .i64 (.ofNat 0)))), (2, 1, (.c (.int .i64 (.ofNat 4095)))), (3, 1, (.c (.int .i64 (.ofNat 5))))], none⟩,
  ⟨some 20, .faddr 5 (.t 1), none⟩,
  ⟨some 21, .load 1 false (.t 20), none⟩,
  ⟨some 22, .build [(.int .i64 (.ofNat 0)), (.int .i64 (.ofNat 0)), (.int .i64 (.ofNat 0)), (.int .i64 (.ofNat 0))] [(0, 1, (.t 21)), (1, 1, (.c (.int .i64 (.ofNat 0)))), (2, 1, (.c (.int .i64 (.ofNat 4095)))), (3, 1, (.c (.int .i64 (.ofNat 5))))], none⟩,
  ⟨some 23, .faddr 7 (.t 1), none⟩,
  ⟨some 24, .load 1 false (.t 23), none⟩,
  ⟨some 25, .build [(.int .i64 (.ofNat 0)), (.int .i64 (.ofNat 0)), (.int .i64 (.ofNat 0)), (.int .i64 (.ofNat 0))] [(0, 1, (.t 24)), (1, 1, (.c (.int .i64 (.ofNat 0)))), (2, 1, (.c (.int .i64 (.ofNat 4095)))), (3, 1, (.c (.int .i64 (.ofNat 5))))], none⟩,
  ⟨some 26, .faddr 6 (.t 1), none⟩,
  ⟨some 27, .load 1 false (.t 26), none⟩,
  ⟨some 28, .build [(.int .i64 (.ofNat 0)), (.int .i64 (.ofNat 0)), (.int .i64 (.ofNat 0)), (.int .i64 (.ofNat 0))] [(0, 1, (.t 27)), (1, 1, (.c (.int .i64 (.ofNat 1)))), (2, 1, (.c (.int .i64 (.ofNat 8)))), (3, 1, (.c (.int .i64 (.ofNat 2))))], none⟩,
  ⟨some 29, .faddr 8 (.t 1), none⟩,
  ⟨some 30, .load 1 false (.t 29), none⟩,
  ⟨some 31, .build [(.int .i64 (.ofNat 0)), (.int .i64 (.ofNat 0)), (.int .i64 (.ofNat 0)), (.int .i64 (.ofNat 0))] [(0, 1, (.t 30)), (1, 1, (.c (.int .i64 (.ofNat 0)))), (2, 1, (.c (.int .i64 (.ofNat 2)))), (3, 1, (.c (.int .i64 (.ofNat 2))))], none⟩,
  ⟨some 32, .faddr 9 (.t 1), none⟩,
  ⟨some 33, .load 1 false (.t 32), none⟩,
  ⟨some 34, .build [(.int .i64 (.ofNat 0)), (.int .i64 (.ofNat 0)), (.int .i64 (.ofNat 0)), (.int .i64 (.ofNat 0))] [(0, 1, (.t 33)), (1, 1, (.c (.int .i64 (.ofNat 0)))), (2, 1, (.c (.int .i64 (.ofNat 1)))), (3, 1, (.c (.int .i64 (.ofNat 2))))], none⟩,
  ⟨some 35, .faddr 10 (.t 1), none⟩,
  ⟨some 36, .load 1 false (.t 35), none⟩,
  ⟨some 37, .build [(.int .i64 (.ofNat 0)), (.int .i64 (.ofNat 0)), (.int .i64 (.ofNat 0)), (.int .i64 (.ofNat 0))] [(0, 1, (.t 36)), (1, 1, (.c (.int .i64 (.ofNat 0)))), (2, 1, (.c (.int .i64 (.ofNat 1)))), (3, 1, (.c (.int .i64 (.ofNat 2))))], none⟩,
  ⟨some 38, .lit 4 true [(.int .i64 (.ofNat 0)), (.int .i64 (.ofNat 0)), (.int .i64 (.ofNat 0)), (.int .i64 (.ofNat 0))] 11 [(0, (.t 7)), (1, (.t 10)), (2, (.t 13)), (3, (.t 16)), (4, (.t 19)), (5, (.t 22)), (6, (.t 25)), (7, (.t 28)), (8, (.t 31)), (9, (.t 34)), (10, (.t 37))], none⟩,
  ⟨some 39, .len .slice (.t 38), none⟩,
  ⟨some 40, .mv (.c (.int .i64 (.ofNat 0))), none⟩]
def f473r2 : List ROper := [
  ⟨some 41, .bin .lss (.t 40) (.t 39), none⟩]
def f473r3 : List ROper := [
  ⟨some 42, .iaddr 4 (.t 38) (.t 40), none⟩,
  ⟨some 43, .load 4 true (.t 42), none⟩,
  ⟨some 4, .alloc [(.int .i64 (.ofNat 0)), (.int .i64 (.ofNat 0)), (.int .i64 (.ofNat 0)), (.int .i64 (.ofNat 0))], none⟩,
  ⟨none, .store 4 (.t 4) (.t 43), none⟩]
def f473r4 : List ROper := [
  ⟨some 44, .faddr 0 (.t 4), none⟩,
  ⟨some 45, .load 1 false (.t 44), none⟩,
  ⟨some 46, .faddr 1 (.t 4), none⟩,
  ⟨some 47, .load 1 false (.t 46), none⟩,
  ⟨some 48, .bin .lss (.t 45) (.t 47), none⟩,
  ⟨some 49, .mv (.t 48), none⟩,
  ⟨some 50, .faddr 0 (.t 4), some (49, false)⟩,
  ⟨some 51, .load 1 false (.t 50), some (49, false)⟩,
  ⟨some 52, .faddr 2 (.t 4), some (49, false)⟩,
  ⟨some 53, .load 1 false (.t 52), some (49, false)⟩,
  ⟨some 54, .bin .gtr (.t 51) (.t 53), some (49, false)⟩,
  ⟨some 55, .pick (.t 49) (.c (.bool true)) (.t 54), none⟩]
def f473r5 : List ROper := [
  ⟨some 56, .faddr 3 (.t 4), none⟩,
  ⟨some 57, .load 1 false (.t 56), none⟩,
  ⟨some 2, .mv (.t 57), none⟩]
def f473r6 : List ROper := [
  ⟨some 58, .bin .add (.t 40) (.c (.int .i64 (.ofNat 1))), none⟩,
  ⟨some 40, .mv (.t 58), none⟩]
def f473r7 : List ROper := [
  ⟨some 59, .load 17 true (.t 1), none⟩,
  ⟨some 60, .call 475 [(.t 59)], none⟩,
  ⟨some 61, .bin .lss (.t 60) (.c (.int .i64 (.ofNat 10))), none⟩,
  ⟨some 62, .mv (.t 61), none⟩,
  ⟨some 63, .load 17 true (.t 1), some (62, false)⟩,
  ⟨some 64, .call 479 [(.t 63)], some (62, false)⟩,
  ⟨some 65, .bin .lss (.t 64) (.c (.int .i64 (.ofNat 20))), some (62, false)⟩,
  ⟨some 66, .pick (.t 62) (.c (.bool true)) (.t 65), none⟩]
def f473r8 : List ROper := [
  ⟨some 2, .mv (.c (.int .i64 (.ofNat 5))), none⟩]
def f473r9 : List ROper := [
  ⟨some 67, .faddr 11 (.t 1), none⟩,
  ⟨some 68, .sliceA 1 false 3 (.t 67), none⟩,
  ⟨some 69, .faddr 14 (.t 1), none⟩,
  ⟨some 70, .sliceA 1 false 3 (.t 69), none⟩,
  ⟨some 71, .append 1 false 16 (.t 68) (.t 70), none⟩,
  ⟨some 72, .call 480 [(.t 71)], none⟩,
  ⟨some 2, .mv (.t 72), none⟩]
def f473 : RFunc := ⟨[.t 2], (.seq (.region f473r0 [1]) (.seq (.seq (.region f473r1 [1, 38, 39, 40]) (.block 0 (.loop [1, 38, 39, 40] (.seq (.region f473r2 [1, 38, 39, 40, 41]) (.seq (.cond (.t 41) .skip (.exit 0)) (.seq (.block 1 (.seq (.region f473r3 [1, 4, 38, 39, 40]) (.seq (.region f473r4 [1, 4, 38, 39, 40, 55]) (.cond (.t 55) (.seq (.region f473r5 [2]) .ret) .skip)))) (.region f473r6 [1, 38, 39, 40]))))))) (.seq (.seq (.region f473r7 [1, 66]) (.cond (.t 66) (.seq (.region f473r8 [2]) .ret) .skip)) (.seq (.dregion f473r9 [] [] [2]) .ret)))), true⟩

/-! quire/section.left -/
def f474r0 : List ROper := [
  ⟨some 2, .box 17 (.t 0), none⟩,
  ⟨some 4, .mv (.c (.int .i64 (.ofNat 0))), none⟩]
def f474r1 : List ROper := [
  ⟨some 5, .faddr 10 (.t 2), none⟩,
  ⟨some 6, .load 1 false (.t 5), none⟩,
  ⟨some 7, .bin .eql (.t 6) (.c (.int .i64 (.ofNat 1))), none⟩,
  ⟨some 8, .mv (.t 7), none⟩,
  ⟨some 9, .mv (.t 1), some (8, true)⟩,
  ⟨some 10, .bin .rem (.t 9) (.c (.int .i64 (.ofNat 2))), some (8, true)⟩,
  ⟨some 11, .bin .eql (.t 10) (.c (.int .i64 (.ofNat 0))), some (8, true)⟩,
  ⟨some 12, .pick (.t 8) (.t 11) (.c (.bool false)), none⟩]
def f474r2 : List ROper := [
  ⟨some 13, .faddr 5 (.t 2), none⟩,
  ⟨some 14, .load 1 false (.t 13), none⟩,
  ⟨some 4, .mv (.t 14), none⟩]
def f474r3 : List ROper := [
  ⟨some 15, .faddr 4 (.t 2), none⟩,
  ⟨some 16, .load 1 false (.t 15), none⟩,
  ⟨some 4, .mv (.t 16), none⟩]
def f474 : RFunc := ⟨[.t 4], (.seq (.region f474r0 [1, 2]) (.seq (.seq (.region f474r1 [2, 12]) (.cond (.t 12) (.seq (.region f474r2 [4]) .ret) .skip)) (.seq (.region f474r3 [4]) .ret))), true⟩

/-! quire/section.wide -/
def f475r0 : List ROper := [
  ⟨some 1, .box 17 (.t 0), none⟩,
  ⟨some 2, .mv (.c (.int .i64 (.ofNat 0))), none⟩]
def f475r1 : List ROper := [
  ⟨some 3, .faddr 0 (.t 1), none⟩,
  ⟨some 4, .load 1 false (.t 3), none⟩,
  ⟨some 5, .faddr 4 (.t 1), none⟩,
  ⟨some 6, .load 1 false (.t 5), none⟩,
  ⟨some 7, .bin .sub (.t 4) (.t 6), none⟩,
  ⟨some 8, .faddr 5 (.t 1), none⟩,
  ⟨some 9, .load 1 false (.t 8), none⟩,
  ⟨some 10, .bin .sub (.t 7) (.t 9), none⟩,
  ⟨some 11, .faddr 7 (.t 1), none⟩,
  ⟨some 12, .load 1 false (.t 11), none⟩,
  ⟨some 13, .faddr 6 (.t 1), none⟩,
  ⟨some 14, .load 1 false (.t 13), none⟩,
  ⟨some 15, .bin .sub (.t 14) (.c (.int .i64 (.ofNat 1))), none⟩,
  ⟨some 16, .bin .mul (.t 12) (.t 15), none⟩,
  ⟨some 17, .bin .sub (.t 10) (.t 16), none⟩,
  ⟨some 18, .faddr 6 (.t 1), none⟩,
  ⟨some 19, .load 1 false (.t 18), none⟩,
  ⟨some 20, .bin .quo (.t 17) (.t 19), none⟩,
  ⟨some 2, .mv (.t 20), none⟩]
def f475 : RFunc := ⟨[.t 2], (.seq (.region f475r0 [1]) (.seq (.region f475r1 [2]) .ret)), true⟩

/-! quire/section.high -/
def f479r0 : List ROper := [
  ⟨some 1, .box 17 (.t 0), none⟩,
  ⟨some 2, .mv (.c (.int .i64 (.ofNat 0))), none⟩]
def f479r1 : List ROper := [
  ⟨some 3, .faddr 1 (.t 1), none⟩,
  ⟨some 4, .load 1 false (.t 3), none⟩,
  ⟨some 5, .faddr 2 (.t 1), none⟩,
  ⟨some 6, .load 1 false (.t 5), none⟩,
  ⟨some 7, .bin .sub (.t 4) (.t 6), none⟩,
  ⟨some 8, .faddr 3 (.t 1), none⟩,
  ⟨some 9, .load 1 false (.t 8), none⟩,
  ⟨some 10, .bin .sub (.t 7) (.t 9), none⟩,
  ⟨some 2, .mv (.t 10), none⟩]
def f479 : RFunc := ⟨[.t 2], (.seq (.region f479r0 [1]) (.seq (.region f479r1 [2]) .ret)), true⟩

/-! quire/section.texts -/
def f480r0 : List ROper := [
  ⟨some 2, .mv (.c (.int .i64 (.ofNat 0))), none⟩]
def f480r1 : List ROper := [
  ⟨some 9, .mv (.t 0), none⟩,
  ⟨some 10, .len .slice (.t 9), none⟩,
  ⟨some 11, .mv (.c (.int .i64 (.ofNat 0))), none⟩]
def f480r2 : List ROper := [
  ⟨some 12, .bin .lss (.t 11) (.t 10), none⟩]
def f480r3 : List ROper := [
  ⟨some 13, .iaddr 1 (.t 9) (.t 11), none⟩,
  ⟨some 14, .load 1 false (.t 13), none⟩,
  ⟨some 4, .mv (.t 14), none⟩]
def f480r4 : List ROper := [
  ⟨some 15, .mv (.t 4), none⟩,
  ⟨some 16, .len .str (.t 15), none⟩,
  ⟨some 17, .bin .gtr (.t 16) (.c (.int .i64 (.ofNat 100))), none⟩]
def f480r5 : List ROper := [
  ⟨some 2, .mv (.c (.int .i64 (.ofNat 3))), none⟩]
def f480r6 : List ROper := [
  ⟨some 18, .bin .add (.t 11) (.c (.int .i64 (.ofNat 1))), none⟩,
  ⟨some 11, .mv (.t 18), none⟩]
def f480r7 : List ROper := [
  ⟨some 19, .mv (.t 0), none⟩,
  ⟨some 20, .len .slice (.t 19), none⟩,
  ⟨some 21, .mv (.c (.int .i64 (.ofNat 0))), none⟩]
def f480r8 : List ROper := [
  ⟨some 22, .bin .lss (.t 21) (.t 20), none⟩]
def f480r9 : List ROper := [
  ⟨some 23, .iaddr 1 (.t 19) (.t 21), none⟩,
  ⟨some 24, .load 1 false (.t 23), none⟩,
  ⟨some 6, .mv (.t 24), none⟩]
def f480r10 : List ROper := [
  ⟨some 25, .mv (.t 6), none⟩,
  ⟨some 26, .len .str (.t 25), none⟩,
  ⟨some 27, .mv (.c (.int .i64 (.ofNat 0))), none⟩]
def f480r11 : List ROper := [
  ⟨some 28, .bin .lss (.t 27) (.t 26), none⟩]
def f480r12 : List ROper := [
  ⟨some 29, .mv (.t 27), none⟩,
  ⟨some 7, .mv (.t 29), none⟩]
def f480r13 : List ROper := [
  ⟨some 30, .mv (.t 6), none⟩,
  ⟨some 31, .mv (.t 7), none⟩,
  ⟨some 32, .index (.t 30) (.t 31), none⟩,
  ⟨some 8, .mv (.t 32), none⟩]
def f480r14 : List ROper := [
  ⟨some 33, .mv (.t 8), none⟩,
  ⟨some 34, .bin .neq (.t 33) (.c (.int .u8 (.ofNat 3))), none⟩,
  ⟨some 35, .mv (.t 34), none⟩,
  ⟨some 36, .mv (.t 8), some (35, true)⟩,
  ⟨some 37, .bin .lss (.t 36) (.c (.int .u8 (.ofNat 32))), some (35, true)⟩,
  ⟨some 38, .mv (.t 37), some (35, true)⟩,
  ⟨some 39, .mv (.t 8), some (38, false)⟩,
  ⟨some 40, .bin .gtr (.t 39) (.c (.int .u8 (.ofNat 126))), some (38, false)⟩,
  ⟨some 41, .pick (.t 38) (.c (.bool true)) (.t 40), some (35, true)⟩,
  ⟨some 42, .pick (.t 35) (.t 41) (.c (.bool false)), none⟩]
def f480r15 : List ROper := [
  ⟨some 2, .mv (.c (.int .i64 (.ofNat 4))), none⟩]
def f480r16 : List ROper := [
  ⟨some 43, .bin .add (.t 27) (.c (.int .i64 (.ofNat 1))), none⟩,
  ⟨some 27, .mv (.t 43), none⟩]
def f480r17 : List ROper := [
  ⟨some 44, .bin .add (.t 21) (.c (.int .i64 (.ofNat 1))), none⟩,
  ⟨some 21, .mv (.t 44), none⟩]
def f480r18 : List ROper := [
  ⟨some 2, .mv (.c (.int .i64 (.ofNat 0))), none⟩]
def f480 : RFunc := ⟨[.t 2], (.seq (.region f480r0 [0]) (.seq (.seq (.region f480r1 [0, 9, 10, 11]) (.block 0 (.loop [0, 9, 10, 11] (.seq (.region f480r2 [0, 9, 10, 11, 12]) (.seq (.cond (.t 12) .skip (.exit 0)) (.seq (.block 1 (.seq (.region f480r3 [0, 4, 9, 10, 11]) (.seq (.region f480r4 [0, 9, 10, 11, 17]) (.cond (.t 17) (.seq (.region f480r5 [2]) .ret) .skip)))) (.region f480r6 [0, 9, 10, 11]))))))) (.seq (.seq (.region f480r7 [19, 20, 21]) (.block 2 (.loop [19, 20, 21] (.seq (.region f480r8 [19, 20, 21, 22]) (.seq (.cond (.t 22) .skip (.exit 2)) (.seq (.block 3 (.seq (.region f480r9 [6, 19, 20, 21]) (.seq (.region f480r10 [6, 19, 20, 21, 26, 27]) (.block 4 (.loop [6, 19, 20, 21, 26, 27] (.seq (.region f480r11 [6, 19, 20, 21, 26, 27, 28]) (.seq (.cond (.t 28) .skip (.exit 4)) (.seq (.block 5 (.seq (.region f480r12 [6, 7, 19, 20, 21, 26, 27]) (.seq (.region f480r13 [6, 8, 19, 20, 21, 26, 27]) (.seq (.region f480r14 [6, 19, 20, 21, 26, 27, 42]) (.cond (.t 42) (.seq (.region f480r15 [2]) .ret) .skip))))) (.region f480r16 [6, 19, 20, 21, 26, 27]))))))))) (.region f480r17 [19, 20, 21]))))))) (.seq (.region f480r18 [2]) .ret)))), true⟩

def tree : TT := (.node 242 (.node 124 (.node 64 (.node 41 (.node 27 (.node 17 (.node 13 (.leaf 10 (.code f10)) (.leaf 13 (.code f13))) (.node 21 (.leaf 17 (.code f17)) (.node 23 (.leaf 21 (.code f21)) (.leaf 23 (.code f23))))) (.node 31 (.node 29 (.leaf 27 (.code f27)) (.node 30 (.leaf 29 (.code f29)) (.leaf 30 (.code f30)))) (.node 32 (.leaf 31 (.code f31)) (.node 40 (.leaf 32 (.code f32)) (.leaf 40 (.code f40)))))) (.node 55 (.node 44 (.node 42 (.leaf 41 (.code f41)) (.node 43 (.leaf 42 (.code f42)) (.leaf 43 (.code f43)))) (.node 51 (.leaf 44 (.code f44)) (.node 54 (.leaf 51 (.code f51)) (.leaf 54 (.code f54))))) (.node 61 (.node 56 (.leaf 55 (.code f55)) (.node 57 (.leaf 56 (.code f56)) (.leaf 57 (.code f57)))) (.node 62 (.leaf 61 (.code f61)) (.node 63 (.leaf 62 (.code f62)) (.leaf 63 (.code f63))))))) (.node 106 (.node 72 (.node 68 (.node 65 (.leaf 64 (.prim countByteD)) (.leaf 65 (.code f65))) (.node 69 (.leaf 68 (.code f68)) (.node 70 (.leaf 69 (.code f69)) (.leaf 70 (.code f70))))) (.node 76 (.node 73 (.leaf 72 (.prim indexByteD)) (.node 74 (.leaf 73 (.code f73)) (.leaf 74 (.code f74)))) (.node 77 (.leaf 76 (.code f76)) (.node 78 (.leaf 77 (.code f77)) (.leaf 78 (.code f78)))))) (.node 117 (.node 110 (.node 108 (.leaf 106 (.code f106)) (.node 109 (.leaf 108 (.code f108)) (.leaf 109 (.code f109)))) (.node 113 (.leaf 110 (.code f110)) (.node 114 (.leaf 113 (.code f113)) (.leaf 114 (.code f114))))) (.node 121 (.node 118 (.leaf 117 (.code f117)) (.node 120 (.leaf 118 (.code f118)) (.leaf 120 (.code f120)))) (.node 122 (.leaf 121 (.code f121)) (.node 123 (.leaf 122 (.code f122)) (.leaf 123 (.code f123)))))))) (.node 148 (.node 136 (.node 130 (.node 127 (.node 126 (.leaf 124 (.code f124)) (.leaf 126 (.code f126))) (.node 128 (.leaf 127 (.code f127)) (.node 129 (.leaf 128 (.code f128)) (.leaf 129 (.code f129))))) (.node 133 (.node 131 (.leaf 130 (.code f130)) (.node 132 (.leaf 131 (.code f131)) (.leaf 132 (.code f132)))) (.node 134 (.leaf 133 (.code f133)) (.node 135 (.leaf 134 (.code f134)) (.leaf 135 (.code f135)))))) (.node 142 (.node 139 (.node 137 (.leaf 136 (.code f136)) (.node 138 (.leaf 137 (.code f137)) (.leaf 138 (.code f138)))) (.node 140 (.leaf 139 (.code f139)) (.node 141 (.leaf 140 (.code f140)) (.leaf 141 (.code f141))))) (.node 145 (.node 143 (.leaf 142 (.code f142)) (.node 144 (.leaf 143 (.code f143)) (.leaf 144 (.code f144)))) (.node 146 (.leaf 145 (.code f145)) (.node 147 (.leaf 146 (.code f146)) (.leaf 147 (.code f147))))))) (.node 159 (.node 153 (.node 150 (.node 149 (.leaf 148 (.code f148)) (.leaf 149 (.code f149))) (.node 151 (.leaf 150 (.code f150)) (.node 152 (.leaf 151 (.code f151)) (.leaf 152 (.code f152))))) (.node 156 (.node 154 (.leaf 153 (.code f153)) (.node 155 (.leaf 154 (.code f154)) (.leaf 155 (.code f155)))) (.node 157 (.leaf 156 (.code f156)) (.node 158 (.leaf 157 (.code f157)) (.leaf 158 (.code f158)))))) (.node 165 (.node 162 (.node 160 (.leaf 159 (.code f159)) (.node 161 (.leaf 160 (.code f160)) (.leaf 161 (.code f161)))) (.node 163 (.leaf 162 (.code f162)) (.node 164 (.leaf 163 (.code f163)) (.leaf 164 (.code f164))))) (.node 211 (.node 166 (.leaf 165 (.code f165)) (.node 167 (.leaf 166 (.code f166)) (.leaf 167 (.code f167)))) (.node 218 (.leaf 211 (.code f211)) (.node 234 (.leaf 218 (.code f218)) (.leaf 234 (.code f234))))))))) (.node 330 (.node 282 (.node 268 (.node 247 (.node 244 (.node 243 (.leaf 242 (.code f242)) (.leaf 243 (.code f243))) (.node 245 (.leaf 244 (.code f244)) (.node 246 (.leaf 245 (.code f245)) (.leaf 246 (.code f246))))) (.node 265 (.node 248 (.leaf 247 (.code f247)) (.node 249 (.leaf 248 (.code f248)) (.leaf 249 (.code f249)))) (.node 266 (.leaf 265 (.code f265)) (.node 267 (.leaf 266 (.code f266)) (.leaf 267 (.code f267)))))) (.node 276 (.node 271 (.node 269 (.leaf 268 (.code f268)) (.node 270 (.leaf 269 (.code f269)) (.leaf 270 (.code f270)))) (.node 272 (.leaf 271 (.code f271)) (.node 275 (.leaf 272 (.code f272)) (.leaf 275 (.code f275))))) (.node 279 (.node 277 (.leaf 276 (.code f276)) (.node 278 (.leaf 277 (.code f277)) (.leaf 278 (.code f278)))) (.node 280 (.leaf 279 (.code f279)) (.node 281 (.leaf 280 (.code f280)) (.leaf 281 (.code f281))))))) (.node 293 (.node 287 (.node 284 (.node 283 (.leaf 282 (.code f282)) (.leaf 283 (.code f283))) (.node 285 (.leaf 284 (.code f284)) (.node 286 (.leaf 285 (.code f285)) (.leaf 286 (.code f286))))) (.node 290 (.node 288 (.leaf 287 (.code f287)) (.node 289 (.leaf 288 (.code f288)) (.leaf 289 (.code f289)))) (.node 291 (.leaf 290 (.code f290)) (.node 292 (.leaf 291 (.code f291)) (.leaf 292 (.code f292)))))) (.node 299 (.node 296 (.node 294 (.leaf 293 (.code f293)) (.node 295 (.leaf 294 (.code f294)) (.leaf 295 (.code f295)))) (.node 297 (.leaf 296 (.code f296)) (.node 298 (.leaf 297 (.code f297)) (.leaf 298 (.code f298))))) (.node 320 (.node 307 (.leaf 299 (.code f299)) (.node 319 (.leaf 307 (.code f307)) (.leaf 319 (.code f319)))) (.node 321 (.leaf 320 (.code f320)) (.node 322 (.leaf 321 (.code f321)) (.leaf 322 (.code f322)))))))) (.node 415 (.node 380 (.node 345 (.node 332 (.node 331 (.leaf 330 (.code f330)) (.leaf 331 (.code f331))) (.node 343 (.leaf 332 (.code f332)) (.node 344 (.leaf 343 (.code f343)) (.leaf 344 (.code f344))))) (.node 377 (.node 346 (.leaf 345 (.code f345)) (.node 374 (.leaf 346 (.code f346)) (.leaf 374 (.code f374)))) (.node 378 (.leaf 377 (.code f377)) (.node 379 (.leaf 378 (.code f378)) (.leaf 379 (.code f379)))))) (.node 386 (.node 383 (.node 381 (.leaf 380 (.code f380)) (.node 382 (.leaf 381 (.code f381)) (.leaf 382 (.code f382)))) (.node 384 (.leaf 383 (.code f383)) (.node 385 (.leaf 384 (.code f384)) (.leaf 385 (.code f385))))) (.node 395 (.node 387 (.leaf 386 (.code f386)) (.node 388 (.leaf 387 (.code f387)) (.leaf 388 (.code f388)))) (.node 413 (.leaf 395 (.code f395)) (.node 414 (.leaf 413 (.code f413)) (.leaf 414 (.code f414))))))) (.node 463 (.node 441 (.node 438 (.node 416 (.leaf 415 (.code f415)) (.node 417 (.leaf 416 (.code f416)) (.leaf 417 (.code f417)))) (.node 439 (.leaf 438 (.code f438)) (.node 440 (.leaf 439 (.code f439)) (.leaf 440 (.code f440))))) (.node 444 (.node 442 (.leaf 441 (.code f441)) (.node 443 (.leaf 442 (.code f442)) (.leaf 443 (.code f443)))) (.node 445 (.leaf 444 (.code f444)) (.node 446 (.leaf 445 (.code f445)) (.leaf 446 (.code f446)))))) (.node 473 (.node 466 (.node 464 (.leaf 463 (.code f463)) (.node 465 (.leaf 464 (.code f464)) (.leaf 465 (.code f465)))) (.node 467 (.leaf 466 (.code f466)) (.node 472 (.leaf 467 (.code f467)) (.leaf 472 (.code f472))))) (.node 478 (.node 474 (.leaf 473 (.code f473)) (.node 475 (.leaf 474 (.code f474)) (.leaf 475 (.code f475)))) (.node 479 (.leaf 478 (.prim noEscapeD)) (.node 480 (.leaf 479 (.code f479)) (.leaf 480 (.code f480))))))))))

def fms : List (Nat × FuncId) := [(265, 213), (266, 214), (10, 119), (267, 215), (268, 216), (269, 217), (13, 89), (270, 219), (271, 220), (272, 70), (17, 170), (275, 235), (276, 236), (277, 237), (21, 202), (278, 238), (279, 239), (23, 151), (280, 101), (281, 102), (282, 246), (283, 139), (27, 113), (284, 140), (285, 141), (29, 164), (286, 142), (30, 165), (287, 143), (31, 166), (288, 144), (32, 167), (289, 145), (290, 146), (291, 147), (292, 148), (293, 149), (294, 183), (295, 184), (296, 185), (40, 114), (297, 186), (41, 115), (298, 187), (42, 116), (299, 221), (43, 117), (44, 106), (51, 210), (307, 33), (54, 160), (55, 161), (56, 201), (57, 203), (61, 162), (62, 163), (319, 63), (63, 152), (320, 65), (64, 154), (321, 66), (65, 107), (322, 68), (68, 197), (69, 198), (70, 199), (72, 200), (73, 155), (330, 93), (74, 227), (331, 94), (75, 190), (332, 97), (76, 191), (77, 192), (78, 222), (343, 129), (344, 130), (345, 131), (346, 132), (106, 64), (108, 96), (109, 133), (110, 212), (113, 95), (114, 67), (117, 91), (374, 84), (118, 92), (120, 172), (121, 98), (377, 109), (122, 211), (378, 157), (123, 99), (379, 193), (124, 234), (380, 194), (381, 195), (382, 196), (126, 90), (127, 134), (383, 223), (128, 135), (384, 224), (129, 136), (385, 225), (130, 137), (386, 226), (387, 240), (131, 120), (388, 241), (132, 121), (133, 122), (134, 123), (135, 124), (136, 125), (137, 126), (138, 127), (139, 245), (395, 6), (140, 118), (141, 173), (142, 174), (143, 168), (144, 169), (145, 249), (146, 250), (147, 204), (148, 205), (149, 206), (150, 207), (151, 208), (152, 209), (153, 251), (154, 252), (155, 218), (156, 228), (413, 25), (157, 229), (414, 26), (158, 230), (415, 27), (159, 231), (416, 28), (160, 232), (417, 29), (161, 233), (162, 188), (163, 242), (164, 243), (165, 244), (166, 247), (167, 248), (438, 51), (439, 52), (440, 53), (441, 54), (442, 55), (443, 56), (444, 57), (445, 58), (446, 59), (463, 83), (464, 85), (465, 86), (466, 87), (211, 128), (467, 88), (472, 108), (473, 110), (218, 138), (474, 111), (475, 112), (478, 156), (479, 158), (480, 159), (234, 171), (242, 175), (243, 176), (244, 177), (245, 178), (246, 179), (247, 180), (248, 181), (249, 182)]

def env : List (Nat × List Nat) := [(4, asciiSpaceL)]

end Go.D.Tab
