/-
The code of what the laws reach, as a table of the small language. Printed by wip/gen.
-/
import Derived.Test.YtfognfpgcjgpkaaGreatDoorTab0
namespace Go.D.Tab

/-! (quire/hyph.values).lay -/
@[simp] def f152r0 : List ROper := [
  ⟨some 8, .mv (.t 2), none⟩,
  ⟨some 9, .len .slice (.t 8), none⟩,
  ⟨some 10, .mv (.c (.int .i64 (.ofNat 0))), none⟩]
@[simp] def f152r1 : List ROper := [
  ⟨some 11, .bin .lss (.t 10) (.t 9), none⟩]
@[simp] def f152r2 : List ROper := [
  ⟨some 12, .mv (.t 10), none⟩,
  ⟨some 13, .iaddr 1 (.t 8) (.t 10), none⟩,
  ⟨some 14, .load 1 false (.t 13), none⟩,
  ⟨some 6, .mv (.t 12), none⟩,
  ⟨some 7, .mv (.t 14), none⟩]
@[simp] def f152r3 : List ROper := [
  ⟨some 15, .mv (.t 0), none⟩,
  ⟨some 16, .mv (.t 1), none⟩,
  ⟨some 17, .mv (.t 6), none⟩,
  ⟨some 18, .bin .add (.t 16) (.t 17), none⟩,
  ⟨some 19, .mv (.t 0), none⟩,
  ⟨some 20, .mv (.t 1), none⟩,
  ⟨some 21, .mv (.t 6), none⟩,
  ⟨some 22, .bin .add (.t 20) (.t 21), none⟩,
  ⟨some 23, .iaddr 1 (.t 19) (.t 22), none⟩,
  ⟨some 24, .load 1 false (.t 23), none⟩,
  ⟨some 25, .mv (.t 7), none⟩,
  ⟨some 26, .max [(.t 24), (.t 25)], none⟩,
  ⟨some 27, .iaddr 1 (.t 15) (.t 18), none⟩,
  ⟨none, .store 1 (.t 27) (.t 26), none⟩]
@[simp] def f152r4 : List ROper := [
  ⟨some 28, .bin .add (.t 10) (.c (.int .i64 (.ofNat 1))), none⟩,
  ⟨some 10, .mv (.t 28), none⟩]
def f152B0 : RC := (.seq (.region f152r1 [0, 1, 8, 9, 10, 11]) (.seq (.cond (.t 11) .skip (.exit 0)) (.seq (.block 1 (.seq (.region f152r2 [0, 1, 6, 7, 8, 9, 10]) (.region f152r3 [0, 1, 8, 9, 10]))) (.region f152r4 [0, 1, 8, 9, 10]))))
def f152L0 : RC := .loop [0, 1, 8, 9, 10] f152B0
def f152 : RFunc := ⟨[], (.seq (.region f152r0 [0, 1, 8, 9, 10]) (.block 0 f152L0)), false⟩

/-! slices.BinarySearchFunc[[]quire/api.Stop,quire/api.Stop,int] -/
@[simp] def f153r0 : List ROper := [
  ⟨some 6, .mv (.c (.int .i64 (.ofNat 0))), none⟩,
  ⟨some 7, .mv (.c (.bool false)), none⟩]
@[simp] def f153r1 : List ROper := [
  ⟨some 12, .mv (.t 0), none⟩,
  ⟨some 13, .len .slice (.t 12), none⟩,
  ⟨some 8, .mv (.t 13), none⟩]
@[simp] def f153r2 : List ROper := [
  ⟨some 14, .mv (.t 8), none⟩,
  ⟨some 9, .mv (.c (.int .i64 (.ofNat 0))), none⟩,
  ⟨some 10, .mv (.t 14), none⟩]
@[simp] def f153r3 : List ROper := [
  ⟨some 15, .mv (.t 9), none⟩,
  ⟨some 16, .mv (.t 10), none⟩,
  ⟨some 17, .bin .lss (.t 15) (.t 16), none⟩]
@[simp] def f153r4 : List ROper := [
  ⟨some 18, .mv (.t 9), none⟩,
  ⟨some 19, .mv (.t 10), none⟩,
  ⟨some 20, .bin .add (.t 18) (.t 19), none⟩,
  ⟨some 21, .i2i .u64 (.t 20), none⟩,
  ⟨some 22, .bin .shr (.t 21) (.c (.int .u64 (.ofNat 1))), none⟩,
  ⟨some 23, .i2i .i64 (.t 22), none⟩,
  ⟨some 11, .mv (.t 23), none⟩]
@[simp] def f153r5 : List ROper := [
  ⟨some 24, .mv (.t 2), none⟩,
  ⟨some 25, .mv (.t 0), none⟩,
  ⟨some 26, .mv (.t 11), none⟩,
  ⟨some 27, .iaddr 2 (.t 25) (.t 26), none⟩,
  ⟨some 28, .load 2 true (.t 27), none⟩,
  ⟨some 29, .mv (.t 1), none⟩,
  ⟨some 30, .callv (.t 24) [(.t 28), (.t 29)], none⟩,
  ⟨some 31, .bin .lss (.t 30) (.c (.int .i64 (.ofNat 0))), none⟩]
@[simp] def f153r6 : List ROper := [
  ⟨some 32, .mv (.t 11), none⟩,
  ⟨some 33, .bin .add (.t 32) (.c (.int .i64 (.ofNat 1))), none⟩,
  ⟨some 9, .mv (.t 33), none⟩]
@[simp] def f153r7 : List ROper := [
  ⟨some 34, .mv (.t 11), none⟩,
  ⟨some 10, .mv (.t 34), none⟩]
def f153B0 : RC := (.seq (.seq (.region f153r3 [0, 1, 2, 8, 9, 10, 17]) (.cond (.t 17) .skip (.exit 0))) (.block 1 (.seq (.region f153r4 [0, 1, 2, 8, 9, 10, 11]) (.seq (.region f153r5 [0, 1, 2, 8, 9, 10, 11, 31]) (.cond (.t 31) (.region f153r6 [0, 1, 2, 8, 9, 10]) (.region f153r7 [0, 1, 2, 8, 9, 10]))))))
def f153L0 : RC := .loop [0, 1, 2, 8, 9, 10] f153B0
@[simp] def f153r8 : List ROper := [
  ⟨some 35, .mv (.t 9), none⟩,
  ⟨some 36, .mv (.t 9), none⟩,
  ⟨some 37, .mv (.t 8), none⟩,
  ⟨some 38, .bin .lss (.t 36) (.t 37), none⟩,
  ⟨some 39, .mv (.t 38), none⟩,
  ⟨some 40, .mv (.t 2), some (39, true)⟩,
  ⟨some 41, .mv (.t 0), some (39, true)⟩,
  ⟨some 42, .mv (.t 9), some (39, true)⟩,
  ⟨some 43, .iaddr 2 (.t 41) (.t 42), some (39, true)⟩,
  ⟨some 44, .load 2 true (.t 43), some (39, true)⟩,
  ⟨some 45, .mv (.t 1), some (39, true)⟩,
  ⟨some 46, .callv (.t 40) [(.t 44), (.t 45)], some (39, true)⟩,
  ⟨some 47, .bin .eql (.t 46) (.c (.int .i64 (.ofNat 0))), some (39, true)⟩,
  ⟨some 48, .pick (.t 39) (.t 47) (.c (.bool false)), none⟩,
  ⟨some 6, .mv (.t 35), none⟩,
  ⟨some 7, .mv (.t 48), none⟩]
def f153 : RFunc := ⟨[.t 6, .t 7], (.seq (.region f153r0 [0, 1, 2]) (.seq (.region f153r1 [0, 1, 2, 8]) (.seq (.region f153r2 [0, 1, 2, 8, 9, 10]) (.seq (.block 0 f153L0) (.seq (.region f153r8 [6, 7]) .ret))))), false⟩

/-! quire/tab.behind$1 -/
@[simp] def f154r0 : List ROper := [
  ⟨some 2, .box 2 (.t 0), none⟩,
  ⟨some 4, .mv (.c (.int .i64 (.ofNat 0))), none⟩]
@[simp] def f154r1 : List ROper := [
  ⟨some 5, .faddr 0 (.t 2), none⟩,
  ⟨some 6, .load 1 false (.t 5), none⟩,
  ⟨some 7, .mv (.t 1), none⟩,
  ⟨some 8, .call 155 [(.t 6), (.t 7)], none⟩,
  ⟨some 4, .mv (.t 8), none⟩]
def f154 : RFunc := ⟨[.t 4], (.seq (.region f154r0 [1, 2]) (.seq (.region f154r1 [4]) .ret)), true⟩

/-! cmp.Compare[int] -/
@[simp] def f155r0 : List ROper := [
  ⟨some 4, .mv (.c (.int .i64 (.ofNat 0))), none⟩]
@[simp] def f155r1 : List ROper := [
  ⟨some 7, .mv (.t 0), none⟩,
  ⟨some 8, .call 162 [(.t 7)], none⟩,
  ⟨some 5, .mv (.t 8), none⟩]
@[simp] def f155r2 : List ROper := [
  ⟨some 9, .mv (.t 1), none⟩,
  ⟨some 10, .call 162 [(.t 9)], none⟩,
  ⟨some 6, .mv (.t 10), none⟩]
@[simp] def f155r3 : List ROper := [
  ⟨some 11, .mv (.t 5), none⟩]
@[simp] def f155r4 : List ROper := [
  ⟨some 12, .mv (.t 6), none⟩]
@[simp] def f155r5 : List ROper := [
  ⟨some 4, .mv (.c (.int .i64 (.ofNat 0))), none⟩]
@[simp] def f155r6 : List ROper := [
  ⟨some 4, .mv (.c (.int .i64 (.negSucc 0))), none⟩]
@[simp] def f155r7 : List ROper := [
  ⟨some 13, .mv (.t 6), none⟩]
@[simp] def f155r8 : List ROper := [
  ⟨some 4, .mv (.c (.int .i64 (.ofNat 1))), none⟩]
@[simp] def f155r9 : List ROper := [
  ⟨some 14, .mv (.t 0), none⟩,
  ⟨some 15, .mv (.t 1), none⟩,
  ⟨some 16, .bin .lss (.t 14) (.t 15), none⟩]
@[simp] def f155r10 : List ROper := [
  ⟨some 4, .mv (.c (.int .i64 (.negSucc 0))), none⟩]
@[simp] def f155r11 : List ROper := [
  ⟨some 17, .mv (.t 0), none⟩,
  ⟨some 18, .mv (.t 1), none⟩,
  ⟨some 19, .bin .gtr (.t 17) (.t 18), none⟩]
@[simp] def f155r12 : List ROper := [
  ⟨some 4, .mv (.c (.int .i64 (.ofNat 1))), none⟩]
@[simp] def f155r13 : List ROper := [
  ⟨some 4, .mv (.c (.int .i64 (.ofNat 0))), none⟩]
def f155 : RFunc := ⟨[.t 4], (.seq (.region f155r0 [0, 1]) (.seq (.region f155r1 [0, 1, 5]) (.seq (.region f155r2 [0, 1, 5, 6]) (.seq (.seq (.region f155r3 [0, 1, 6, 11]) (.cond (.t 11) (.seq (.seq (.region f155r4 [12]) (.cond (.t 12) (.seq (.region f155r5 [4]) .ret) .skip)) (.seq (.region f155r6 [4]) .ret)) .skip)) (.seq (.seq (.region f155r7 [0, 1, 13]) (.cond (.t 13) (.seq (.region f155r8 [4]) .ret) .skip)) (.seq (.seq (.region f155r9 [0, 1, 16]) (.cond (.t 16) (.seq (.region f155r10 [4]) .ret) .skip)) (.seq (.seq (.region f155r11 [19]) (.cond (.t 19) (.seq (.region f155r12 [4]) .ret) .skip)) (.seq (.region f155r13 [4]) .ret)))))))), true⟩

/-! quire/hyph.pattern -/
@[simp] def f156r0 : List ROper := [
  ⟨some 2, .mv (.c (.str [])), none⟩,
  ⟨some 3, .mv (.c (.list 0 0 .no false [])), none⟩,
  ⟨some 4, .mv (.c (.bool false)), none⟩]
@[simp] def f156r1 : List ROper := [
  ⟨some 11, .mv (.t 0), none⟩,
  ⟨some 12, .len .str (.t 11), none⟩,
  ⟨some 13, .bin .lss (.t 12) (.c (.int .i64 (.ofNat 1))), none⟩,
  ⟨some 14, .mv (.t 13), none⟩,
  ⟨some 15, .mv (.t 0), some (14, false)⟩,
  ⟨some 16, .len .str (.t 15), some (14, false)⟩,
  ⟨some 17, .bin .gtr (.t 16) (.c (.int .i64 (.ofNat 16))), some (14, false)⟩,
  ⟨some 18, .pick (.t 14) (.c (.bool true)) (.t 17), none⟩]
@[simp] def f156r2 : List ROper := [
  ⟨some 2, .mv (.c (.str [])), none⟩,
  ⟨some 3, .mv (.c (.list 0 0 .no false [])), none⟩,
  ⟨some 4, .mv (.c (.bool false)), none⟩]
@[simp] def f156r3 : List ROper := [
  ⟨some 5, .mv (.c (.list 0 0 .no false [])), none⟩]
@[simp] def f156r4 : List ROper := [
  ⟨some 19, .hlit 1 false [(.int .u8 (.ofNat 0))] 1 [(0, (.c (.int .u8 (.ofNat 0))))], none⟩,
  ⟨some 6, .mv (.t 19), none⟩]
@[simp] def f156r5 : List ROper := [
  ⟨some 7, .mv (.c (.bool false)), none⟩,
  ⟨some 8, .mv (.c (.bool true)), none⟩]
@[simp] def f156r6 : List ROper := [
  ⟨some 20, .mv (.t 0), none⟩,
  ⟨some 21, .s2h (.t 20), none⟩,
  ⟨some 22, .len .slice (.t 21), none⟩,
  ⟨some 23, .mv (.c (.int .i64 (.ofNat 0))), none⟩]
@[simp] def f156r7 : List ROper := [
  ⟨some 24, .bin .lss (.t 23) (.t 22), none⟩]
@[simp] def f156r8 : List ROper := [
  ⟨some 25, .mv (.t 23), none⟩,
  ⟨some 26, .iaddr 1 (.t 21) (.t 23), none⟩,
  ⟨some 27, .load 1 false (.t 26), none⟩,
  ⟨some 9, .mv (.t 25), none⟩,
  ⟨some 10, .mv (.t 27), none⟩]
@[simp] def f156r9 : List ROper := [
  ⟨some 29, .mv (.t 10), none⟩,
  ⟨some 30, .bin .eql (.t 29) (.c (.int .u8 (.ofNat 46))), none⟩,
  ⟨some 28, .mv (.t 30), none⟩]
@[simp] def f156r10 : List ROper := [
  ⟨some 31, .mv (.t 9), none⟩,
  ⟨some 32, .bin .neq (.t 31) (.c (.int .i64 (.ofNat 0))), none⟩,
  ⟨some 33, .mv (.t 32), none⟩,
  ⟨some 34, .mv (.t 9), some (33, true)⟩,
  ⟨some 35, .mv (.t 0), some (33, true)⟩,
  ⟨some 36, .len .str (.t 35), some (33, true)⟩,
  ⟨some 37, .bin .sub (.t 36) (.c (.int .i64 (.ofNat 1))), some (33, true)⟩,
  ⟨some 38, .bin .neq (.t 34) (.t 37), some (33, true)⟩,
  ⟨some 39, .pick (.t 33) (.t 38) (.c (.bool false)), none⟩]
@[simp] def f156r11 : List ROper := [
  ⟨some 2, .mv (.c (.str [])), none⟩,
  ⟨some 3, .mv (.c (.list 0 0 .no false [])), none⟩,
  ⟨some 4, .mv (.c (.bool false)), none⟩]
@[simp] def f156r12 : List ROper := [
  ⟨some 40, .mv (.t 5), none⟩,
  ⟨some 41, .mv (.t 10), none⟩,
  ⟨some 42, .hlit 1 false [(.int .u8 (.ofNat 0))] 1 [(0, (.t 41))], none⟩,
  ⟨some 43, .append 1 false 1 (.t 40) (.t 42), none⟩,
  ⟨some 44, .mv (.t 6), none⟩,
  ⟨some 45, .hlit 1 false [(.int .u8 (.ofNat 0))] 1 [(0, (.c (.int .u8 (.ofNat 0))))], none⟩,
  ⟨some 46, .append 1 false 1 (.t 44) (.t 45), none⟩,
  ⟨some 5, .mv (.t 43), none⟩,
  ⟨some 6, .mv (.t 46), none⟩]
@[simp] def f156r13 : List ROper := [
  ⟨some 8, .mv (.c (.bool true)), none⟩]
@[simp] def f156r14 : List ROper := [
  ⟨some 48, .mv (.t 10), none⟩,
  ⟨some 49, .call 161 [(.t 48)], none⟩,
  ⟨some 47, .mv (.t 49), none⟩]
@[simp] def f156r15 : List ROper := [
  ⟨some 50, .mv (.t 5), none⟩,
  ⟨some 51, .mv (.t 10), none⟩,
  ⟨some 52, .hlit 1 false [(.int .u8 (.ofNat 0))] 1 [(0, (.t 51))], none⟩,
  ⟨some 53, .append 1 false 1 (.t 50) (.t 52), none⟩,
  ⟨some 54, .mv (.t 6), none⟩,
  ⟨some 55, .hlit 1 false [(.int .u8 (.ofNat 0))] 1 [(0, (.c (.int .u8 (.ofNat 0))))], none⟩,
  ⟨some 56, .append 1 false 1 (.t 54) (.t 55), none⟩,
  ⟨some 5, .mv (.t 53), none⟩,
  ⟨some 6, .mv (.t 56), none⟩]
@[simp] def f156r16 : List ROper := [
  ⟨some 7, .mv (.c (.bool true)), none⟩,
  ⟨some 8, .mv (.c (.bool true)), none⟩]
@[simp] def f156r17 : List ROper := [
  ⟨some 58, .mv (.t 10), none⟩,
  ⟨some 59, .call 163 [(.t 58)], none⟩,
  ⟨some 60, .mv (.t 59), none⟩,
  ⟨some 61, .mv (.t 8), some (60, true)⟩,
  ⟨some 62, .pick (.t 60) (.t 61) (.c (.bool false)), none⟩,
  ⟨some 57, .mv (.t 62), none⟩]
@[simp] def f156r18 : List ROper := [
  ⟨some 63, .mv (.t 6), none⟩,
  ⟨some 64, .mv (.t 6), none⟩,
  ⟨some 65, .len .slice (.t 64), none⟩,
  ⟨some 66, .bin .sub (.t 65) (.c (.int .i64 (.ofNat 1))), none⟩,
  ⟨some 67, .mv (.t 10), none⟩,
  ⟨some 68, .bin .sub (.t 67) (.c (.int .u8 (.ofNat 48))), none⟩,
  ⟨some 69, .iaddr 1 (.t 63) (.t 66), none⟩,
  ⟨none, .store 1 (.t 69) (.t 68), none⟩]
@[simp] def f156r19 : List ROper := [
  ⟨some 8, .mv (.c (.bool false)), none⟩]
@[simp] def f156r20 : List ROper := [
  ⟨some 2, .mv (.c (.str [])), none⟩,
  ⟨some 3, .mv (.c (.list 0 0 .no false [])), none⟩,
  ⟨some 4, .mv (.c (.bool false)), none⟩]
@[simp] def f156r21 : List ROper := [
  ⟨some 70, .bin .add (.t 23) (.c (.int .i64 (.ofNat 1))), none⟩,
  ⟨some 23, .mv (.t 70), none⟩]
def f156B0 : RC := (.seq (.region f156r7 [0, 5, 6, 7, 8, 21, 22, 23, 24]) (.seq (.cond (.t 24) .skip (.exit 0)) (.seq (.block 1 (.seq (.region f156r8 [0, 5, 6, 7, 8, 9, 10, 21, 22, 23]) (.block 2 (.seq (.region f156r9 [0, 5, 6, 7, 8, 9, 10, 21, 22, 23, 28]) (.cond (.t 28) (.seq (.seq (.region f156r10 [0, 5, 6, 7, 10, 21, 22, 23, 39]) (.cond (.t 39) (.seq (.region f156r11 [2, 3, 4]) .ret) .skip)) (.seq (.region f156r12 [0, 5, 6, 7, 21, 22, 23]) (.region f156r13 [0, 5, 6, 7, 8, 21, 22, 23]))) (.seq (.region f156r14 [0, 5, 6, 7, 8, 10, 21, 22, 23, 47]) (.cond (.t 47) (.seq (.region f156r15 [0, 5, 6, 21, 22, 23]) (.region f156r16 [0, 5, 6, 7, 8, 21, 22, 23])) (.seq (.region f156r17 [0, 5, 6, 7, 10, 21, 22, 23, 57]) (.cond (.t 57) (.seq (.region f156r18 [0, 5, 6, 7, 21, 22, 23]) (.region f156r19 [0, 5, 6, 7, 8, 21, 22, 23])) (.seq (.region f156r20 [2, 3, 4]) .ret)))))))))) (.region f156r21 [0, 5, 6, 7, 8, 21, 22, 23]))))
def f156L0 : RC := .loop [0, 5, 6, 7, 8, 21, 22, 23] f156B0
@[simp] def f156r22 : List ROper := [
  ⟨some 71, .mv (.t 5), none⟩,
  ⟨some 72, .b2s (.t 71), none⟩,
  ⟨some 73, .mv (.t 6), none⟩,
  ⟨some 74, .mv (.t 7), none⟩,
  ⟨some 2, .mv (.t 72), none⟩,
  ⟨some 3, .mv (.t 73), none⟩,
  ⟨some 4, .mv (.t 74), none⟩]
def f156 : RFunc := ⟨[.t 2, .t 3, .t 4], (.seq (.region f156r0 [0]) (.seq (.seq (.region f156r1 [0, 18]) (.cond (.t 18) (.seq (.region f156r2 [2, 3, 4]) .ret) .skip)) (.seq (.region f156r3 [0, 5]) (.seq (.region f156r4 [0, 5, 6]) (.seq (.region f156r5 [0, 5, 6, 7, 8]) (.seq (.seq (.region f156r6 [0, 5, 6, 7, 8, 21, 22, 23]) (.block 0 f156L0)) (.seq (.region f156r22 [2, 3, 4]) .ret))))))), true⟩

/-! (*quire/hyph.node).add -/
@[simp] def f157r0 : List ROper := [
  ⟨some 10, .mv (.t 1), none⟩,
  ⟨some 11, .s2b (.t 10), none⟩,
  ⟨some 12, .len .slice (.t 11), none⟩,
  ⟨some 13, .mv (.c (.int .i64 (.ofNat 0))), none⟩]
@[simp] def f157r1 : List ROper := [
  ⟨some 14, .bin .lss (.t 13) (.t 12), none⟩]
@[simp] def f157r2 : List ROper := [
  ⟨some 15, .iaddr 1 (.t 11) (.t 13), none⟩,
  ⟨some 16, .load 1 false (.t 15), none⟩,
  ⟨some 7, .mv (.t 16), none⟩]
@[simp] def f157r3 : List ROper := [
  ⟨some 17, .mv (.t 0), none⟩,
  ⟨some 18, .nilchk (.t 17), none⟩,
  ⟨some 19, .faddr 0 (.t 18), none⟩,
  ⟨some 20, .load 1 false (.t 19), none⟩,
  ⟨some 21, .eq .map false (.t 20) (.c .nilmap), none⟩]
@[simp] def f157r4 : List ROper := [
  ⟨some 22, .mv (.t 0), none⟩,
  ⟨some 23, .mkmap, none⟩,
  ⟨some 24, .nilchk (.t 22), none⟩,
  ⟨some 25, .faddr 0 (.t 24), none⟩,
  ⟨none, .store 1 (.t 25) (.t 23), none⟩]
@[simp] def f157r5 : List ROper := [
  ⟨some 26, .mv (.t 0), none⟩,
  ⟨some 27, .nilchk (.t 26), none⟩,
  ⟨some 28, .faddr 0 (.t 27), none⟩,
  ⟨some 29, .load 1 false (.t 28), none⟩,
  ⟨some 30, .mv (.t 7), none⟩,
  ⟨some 31, .lookup [.int] .nilp (.t 29) (.t 30) false, none⟩,
  ⟨some 32, .eq .ptr false (.t 31) (.c .nilp), none⟩]
@[simp] def f157r6 : List ROper := [
  ⟨some 33, .mv (.t 0), none⟩,
  ⟨some 34, .nilchk (.t 33), none⟩,
  ⟨some 35, .faddr 0 (.t 34), none⟩,
  ⟨some 36, .load 1 false (.t 35), none⟩,
  ⟨some 37, .mv (.t 7), none⟩,
  ⟨some 38, .build [.nilmap, (.list 0 0 .no false [])] [], none⟩,
  ⟨some 39, .box 2 (.t 38), none⟩,
  ⟨none, .mapset [.int] (.t 36) (.t 37) (.t 39), none⟩]
@[simp] def f157r7 : List ROper := [
  ⟨some 40, .mv (.t 0), none⟩,
  ⟨some 41, .nilchk (.t 40), none⟩,
  ⟨some 42, .faddr 0 (.t 41), none⟩,
  ⟨some 43, .load 1 false (.t 42), none⟩,
  ⟨some 44, .mv (.t 7), none⟩,
  ⟨some 45, .lookup [.int] .nilp (.t 43) (.t 44) false, none⟩,
  ⟨some 0, .mv (.t 45), none⟩]
@[simp] def f157r8 : List ROper := [
  ⟨some 46, .bin .add (.t 13) (.c (.int .i64 (.ofNat 1))), none⟩,
  ⟨some 13, .mv (.t 46), none⟩]
def f157B0 : RC := (.seq (.region f157r1 [0, 2, 11, 12, 13, 14]) (.seq (.cond (.t 14) .skip (.exit 0)) (.seq (.block 1 (.seq (.region f157r2 [0, 2, 7, 11, 12, 13]) (.seq (.seq (.region f157r3 [0, 2, 7, 11, 12, 13, 21]) (.cond (.t 21) (.region f157r4 [0, 2, 7, 11, 12, 13]) .skip)) (.seq (.seq (.region f157r5 [0, 2, 7, 11, 12, 13, 32]) (.cond (.t 32) (.region f157r6 [0, 2, 7, 11, 12, 13]) .skip)) (.region f157r7 [0, 2, 11, 12, 13]))))) (.region f157r8 [0, 2, 11, 12, 13]))))
def f157L0 : RC := .loop [0, 2, 11, 12, 13] f157B0
@[simp] def f157r9 : List ROper := [
  ⟨some 47, .mv (.t 0), none⟩,
  ⟨some 48, .nilchk (.t 47), none⟩,
  ⟨some 49, .faddr 1 (.t 48), none⟩,
  ⟨some 50, .load 1 false (.t 49), none⟩,
  ⟨some 51, .eq .slice false (.t 50) (.c (.list 0 0 .no false [])), none⟩]
@[simp] def f157r10 : List ROper := [
  ⟨some 52, .mv (.t 0), none⟩,
  ⟨some 53, .mv (.t 2), none⟩,
  ⟨some 54, .call 164 [(.t 53)], none⟩,
  ⟨some 55, .nilchk (.t 52), none⟩,
  ⟨some 56, .faddr 1 (.t 55), none⟩,
  ⟨none, .store 1 (.t 56) (.t 54), none⟩]
@[simp] def f157r11 : List ROper := [
  ⟨some 57, .mv (.t 2), none⟩,
  ⟨some 58, .len .slice (.t 57), none⟩,
  ⟨some 59, .mv (.c (.int .i64 (.ofNat 0))), none⟩]
@[simp] def f157r12 : List ROper := [
  ⟨some 60, .bin .lss (.t 59) (.t 58), none⟩]
@[simp] def f157r13 : List ROper := [
  ⟨some 61, .mv (.t 59), none⟩,
  ⟨some 62, .iaddr 1 (.t 57) (.t 59), none⟩,
  ⟨some 63, .load 1 false (.t 62), none⟩,
  ⟨some 8, .mv (.t 61), none⟩,
  ⟨some 9, .mv (.t 63), none⟩]
@[simp] def f157r14 : List ROper := [
  ⟨some 64, .mv (.t 0), none⟩,
  ⟨some 65, .nilchk (.t 64), none⟩,
  ⟨some 66, .faddr 1 (.t 65), none⟩,
  ⟨some 67, .load 1 false (.t 66), none⟩,
  ⟨some 68, .mv (.t 8), none⟩,
  ⟨some 69, .mv (.t 0), none⟩,
  ⟨some 70, .nilchk (.t 69), none⟩,
  ⟨some 71, .faddr 1 (.t 70), none⟩,
  ⟨some 72, .load 1 false (.t 71), none⟩,
  ⟨some 73, .mv (.t 8), none⟩,
  ⟨some 74, .iaddr 1 (.t 72) (.t 73), none⟩,
  ⟨some 75, .load 1 false (.t 74), none⟩,
  ⟨some 76, .mv (.t 9), none⟩,
  ⟨some 77, .max [(.t 75), (.t 76)], none⟩,
  ⟨some 78, .iaddr 1 (.t 67) (.t 68), none⟩,
  ⟨none, .store 1 (.t 78) (.t 77), none⟩]
@[simp] def f157r15 : List ROper := [
  ⟨some 79, .bin .add (.t 59) (.c (.int .i64 (.ofNat 1))), none⟩,
  ⟨some 59, .mv (.t 79), none⟩]
def f157B1 : RC := (.seq (.region f157r12 [0, 57, 58, 59, 60]) (.seq (.cond (.t 60) .skip (.exit 2)) (.seq (.block 3 (.seq (.region f157r13 [0, 8, 9, 57, 58, 59]) (.dregion f157r14 [] [] [0, 57, 58, 59]))) (.region f157r15 [0, 57, 58, 59]))))
def f157L1 : RC := .loop [0, 57, 58, 59] f157B1
def f157 : RFunc := ⟨[], (.seq (.seq (.region f157r0 [0, 2, 11, 12, 13]) (.block 0 f157L0)) (.seq (.seq (.region f157r9 [0, 2, 51]) (.cond (.t 51) (.seq (.region f157r10 []) .ret) .skip)) (.seq (.region f157r11 [0, 57, 58, 59]) (.block 2 f157L1)))), false⟩

/-! quire/hyph.exception -/
@[simp] def f158r0 : List ROper := [
  ⟨some 2, .mv (.c (.str [])), none⟩,
  ⟨some 3, .mv (.c (.list 0 0 .no false [])), none⟩,
  ⟨some 4, .mv (.c (.bool false)), none⟩]
@[simp] def f158r1 : List ROper := [
  ⟨some 5, .mv (.c (.list 0 0 .no false [])), none⟩]
@[simp] def f158r2 : List ROper := [
  ⟨some 6, .mv (.c (.list 0 0 .no false [])), none⟩]
@[simp] def f158r3 : List ROper := [
  ⟨some 9, .mv (.t 0), none⟩,
  ⟨some 10, .s2b (.t 9), none⟩,
  ⟨some 11, .len .slice (.t 10), none⟩,
  ⟨some 12, .mv (.c (.int .i64 (.ofNat 0))), none⟩]
@[simp] def f158r4 : List ROper := [
  ⟨some 13, .bin .lss (.t 12) (.t 11), none⟩]
@[simp] def f158r5 : List ROper := [
  ⟨some 14, .mv (.t 12), none⟩,
  ⟨some 15, .iaddr 1 (.t 10) (.t 12), none⟩,
  ⟨some 16, .load 1 false (.t 15), none⟩,
  ⟨some 7, .mv (.t 14), none⟩,
  ⟨some 8, .mv (.t 16), none⟩]
@[simp] def f158r6 : List ROper := [
  ⟨some 18, .mv (.t 8), none⟩,
  ⟨some 19, .call 161 [(.t 18)], none⟩,
  ⟨some 17, .mv (.t 19), none⟩]
@[simp] def f158r7 : List ROper := [
  ⟨some 20, .mv (.t 5), none⟩,
  ⟨some 21, .mv (.t 8), none⟩,
  ⟨some 22, .lit 1 false [(.int .u8 (.ofNat 0))] 1 [(0, (.t 21))], none⟩,
  ⟨some 23, .append 1 false 1 (.t 20) (.t 22), none⟩,
  ⟨some 5, .mv (.t 23), none⟩]
@[simp] def f158r8 : List ROper := [
  ⟨some 25, .mv (.t 8), none⟩,
  ⟨some 26, .bin .eql (.t 25) (.c (.int .u8 (.ofNat 45))), none⟩,
  ⟨some 27, .mv (.t 26), none⟩,
  ⟨some 28, .mv (.t 7), some (27, true)⟩,
  ⟨some 29, .bin .gtr (.t 28) (.c (.int .i64 (.ofNat 0))), some (27, true)⟩,
  ⟨some 30, .pick (.t 27) (.t 29) (.c (.bool false)), none⟩,
  ⟨some 31, .mv (.t 30), none⟩,
  ⟨some 32, .mv (.t 7), some (31, true)⟩,
  ⟨some 33, .mv (.t 0), some (31, true)⟩,
  ⟨some 34, .len .str (.t 33), some (31, true)⟩,
  ⟨some 35, .bin .sub (.t 34) (.c (.int .i64 (.ofNat 1))), some (31, true)⟩,
  ⟨some 36, .bin .lss (.t 32) (.t 35), some (31, true)⟩,
  ⟨some 37, .pick (.t 31) (.t 36) (.c (.bool false)), none⟩,
  ⟨some 38, .mv (.t 37), none⟩,
  ⟨some 39, .mv (.t 0), some (38, true)⟩,
  ⟨some 40, .mv (.t 7), some (38, true)⟩,
  ⟨some 41, .bin .sub (.t 40) (.c (.int .i64 (.ofNat 1))), some (38, true)⟩,
  ⟨some 42, .index (.t 39) (.t 41), some (38, true)⟩,
  ⟨some 43, .bin .neq (.t 42) (.c (.int .u8 (.ofNat 45))), some (38, true)⟩,
  ⟨some 44, .pick (.t 38) (.t 43) (.c (.bool false)), none⟩,
  ⟨some 24, .mv (.t 44), none⟩]
@[simp] def f158r9 : List ROper := [
  ⟨some 45, .mv (.t 6), none⟩,
  ⟨some 46, .mv (.t 5), none⟩,
  ⟨some 47, .len .slice (.t 46), none⟩,
  ⟨some 48, .lit 1 false [(.int .i64 (.ofNat 0))] 1 [(0, (.t 47))], none⟩,
  ⟨some 49, .append 1 false 8 (.t 45) (.t 48), none⟩,
  ⟨some 6, .mv (.t 49), none⟩]
@[simp] def f158r10 : List ROper := [
  ⟨some 2, .mv (.c (.str [])), none⟩,
  ⟨some 3, .mv (.c (.list 0 0 .no false [])), none⟩,
  ⟨some 4, .mv (.c (.bool false)), none⟩]
@[simp] def f158r11 : List ROper := [
  ⟨some 50, .bin .add (.t 12) (.c (.int .i64 (.ofNat 1))), none⟩,
  ⟨some 12, .mv (.t 50), none⟩]
def f158B0 : RC := (.seq (.region f158r4 [0, 5, 6, 10, 11, 12, 13]) (.seq (.cond (.t 13) .skip (.exit 0)) (.seq (.block 1 (.seq (.region f158r5 [0, 5, 6, 7, 8, 10, 11, 12]) (.block 2 (.seq (.region f158r6 [0, 5, 6, 7, 8, 10, 11, 12, 17]) (.cond (.t 17) (.region f158r7 [0, 5, 6, 10, 11, 12]) (.seq (.region f158r8 [0, 5, 6, 10, 11, 12, 24]) (.cond (.t 24) (.region f158r9 [0, 5, 6, 10, 11, 12]) (.seq (.region f158r10 [2, 3, 4]) .ret)))))))) (.region f158r11 [0, 5, 6, 10, 11, 12]))))
def f158L0 : RC := .loop [0, 5, 6, 10, 11, 12] f158B0
@[simp] def f158r12 : List ROper := [
  ⟨some 51, .mv (.t 5), none⟩,
  ⟨some 52, .b2s (.t 51), none⟩,
  ⟨some 53, .mv (.t 6), none⟩,
  ⟨some 54, .mv (.t 5), none⟩,
  ⟨some 55, .len .slice (.t 54), none⟩,
  ⟨some 56, .bin .geq (.t 55) (.c (.int .i64 (.ofNat 2))), none⟩,
  ⟨some 57, .mv (.t 56), none⟩,
  ⟨some 58, .mv (.t 5), some (57, true)⟩,
  ⟨some 59, .len .slice (.t 58), some (57, true)⟩,
  ⟨some 60, .bin .leq (.t 59) (.c (.int .i64 (.ofNat 64))), some (57, true)⟩,
  ⟨some 61, .pick (.t 57) (.t 60) (.c (.bool false)), none⟩,
  ⟨some 2, .mv (.t 52), none⟩,
  ⟨some 3, .mv (.t 53), none⟩,
  ⟨some 4, .mv (.t 61), none⟩]
def f158 : RFunc := ⟨[.t 2, .t 3, .t 4], (.seq (.region f158r0 [0]) (.seq (.region f158r1 [0, 5]) (.seq (.region f158r2 [0, 5, 6]) (.seq (.seq (.region f158r3 [0, 5, 6, 10, 11, 12]) (.block 0 f158L0)) (.seq (.region f158r12 [2, 3, 4]) .ret))))), true⟩

/-! strings.FieldsFunc -/
@[simp] def f159r0 : List ROper := [
  ⟨some 4, .mv (.c (.list 0 0 .no false [])), none⟩]
@[simp] def f159r1 : List ROper := [
  ⟨some 12, .mklist 2 16 (.c (.int .i64 (.ofNat 0))) (.c (.int .i64 (.ofNat 32))), none⟩,
  ⟨some 5, .mv (.t 12), none⟩]
@[simp] def f159r2 : List ROper := [
  ⟨some 6, .mv (.c (.int .i64 (.negSucc 0))), none⟩]
@[simp] def f159r3 : List ROper := [
  ⟨some 13, .mv (.t 0), none⟩,
  ⟨some 14, .fail, none⟩]
@[simp] def f159r4 : List ROper := [
  ⟨some 15, .fail, none⟩,
  ⟨some 16, .extract (.t 15) 0, none⟩]
@[simp] def f159r5 : List ROper := [
  ⟨some 17, .extract (.t 15) 1, none⟩,
  ⟨some 18, .extract (.t 15) 2, none⟩,
  ⟨some 7, .mv (.t 17), none⟩,
  ⟨some 8, .mv (.t 18), none⟩]
@[simp] def f159r6 : List ROper := [
  ⟨some 19, .mv (.t 1), none⟩,
  ⟨some 20, .mv (.t 8), none⟩,
  ⟨some 21, .callv (.t 19) [(.t 20)], none⟩]
@[simp] def f159r7 : List ROper := [
  ⟨some 22, .mv (.t 6), none⟩,
  ⟨some 23, .bin .geq (.t 22) (.c (.int .i64 (.ofNat 0))), none⟩]
@[simp] def f159r8 : List ROper := [
  ⟨some 24, .mv (.t 5), none⟩,
  ⟨some 25, .mv (.t 6), none⟩,
  ⟨some 26, .mv (.t 7), none⟩,
  ⟨some 27, .build [(.int .i64 (.ofNat 0)), (.int .i64 (.ofNat 0))] [(0, 1, (.t 25)), (1, 1, (.t 26))], none⟩,
  ⟨some 28, .lit 2 true [(.int .i64 (.ofNat 0)), (.int .i64 (.ofNat 0))] 1 [(0, (.t 27))], none⟩,
  ⟨some 29, .append 2 true 16 (.t 24) (.t 28), none⟩,
  ⟨some 5, .mv (.t 29), none⟩]
@[simp] def f159r9 : List ROper := [
  ⟨some 30, .mv (.t 6), none⟩,
  ⟨some 31, .un .xor (.t 30), none⟩,
  ⟨some 6, .mv (.t 31), none⟩]
@[simp] def f159r10 : List ROper := [
  ⟨some 32, .mv (.t 6), none⟩,
  ⟨some 33, .bin .lss (.t 32) (.c (.int .i64 (.ofNat 0))), none⟩]
@[simp] def f159r11 : List ROper := [
  ⟨some 34, .mv (.t 7), none⟩,
  ⟨some 6, .mv (.t 34), none⟩]
def f159B0 : RC := (.seq (.region f159r4 [0, 1, 5, 6, 15, 16]) (.seq (.cond (.t 16) .skip (.exit 0)) (.block 1 (.seq (.region f159r5 [0, 1, 5, 6, 7, 8]) (.seq (.region f159r6 [0, 1, 5, 6, 7, 21]) (.cond (.t 21) (.seq (.region f159r7 [0, 1, 5, 6, 7, 23]) (.cond (.t 23) (.seq (.region f159r8 [0, 1, 5, 6]) (.region f159r9 [0, 1, 5, 6])) .skip)) (.seq (.region f159r10 [0, 1, 5, 6, 7, 33]) (.cond (.t 33) (.region f159r11 [0, 1, 5, 6]) .skip))))))))
def f159L0 : RC := .loop [0, 1, 5, 6] f159B0
@[simp] def f159r12 : List ROper := [
  ⟨some 35, .mv (.t 6), none⟩,
  ⟨some 36, .bin .geq (.t 35) (.c (.int .i64 (.ofNat 0))), none⟩]
@[simp] def f159r13 : List ROper := [
  ⟨some 37, .mv (.t 5), none⟩,
  ⟨some 38, .mv (.t 6), none⟩,
  ⟨some 39, .mv (.t 0), none⟩,
  ⟨some 40, .len .str (.t 39), none⟩,
  ⟨some 41, .build [(.int .i64 (.ofNat 0)), (.int .i64 (.ofNat 0))] [(0, 1, (.t 38)), (1, 1, (.t 40))], none⟩,
  ⟨some 42, .lit 2 true [(.int .i64 (.ofNat 0)), (.int .i64 (.ofNat 0))] 1 [(0, (.t 41))], none⟩,
  ⟨some 43, .append 2 true 16 (.t 37) (.t 42), none⟩,
  ⟨some 5, .mv (.t 43), none⟩]
@[simp] def f159r14 : List ROper := [
  ⟨some 44, .mv (.t 5), none⟩,
  ⟨some 45, .len .slice (.t 44), none⟩,
  ⟨some 46, .mkslice 1 false 16 [(.str [])] (.t 45) (.t 45), none⟩,
  ⟨some 9, .mv (.t 46), none⟩]
@[simp] def f159r15 : List ROper := [
  ⟨some 47, .mv (.t 5), none⟩,
  ⟨some 48, .len .slice (.t 47), none⟩,
  ⟨some 49, .mv (.c (.int .i64 (.ofNat 0))), none⟩]
@[simp] def f159r16 : List ROper := [
  ⟨some 50, .bin .lss (.t 49) (.t 48), none⟩]
@[simp] def f159r17 : List ROper := [
  ⟨some 51, .mv (.t 49), none⟩,
  ⟨some 52, .iaddr 2 (.t 47) (.t 49), none⟩,
  ⟨some 53, .load 2 true (.t 52), none⟩,
  ⟨some 11, .alloc [(.int .i64 (.ofNat 0)), (.int .i64 (.ofNat 0))], none⟩,
  ⟨some 10, .mv (.t 51), none⟩,
  ⟨none, .store 2 (.t 11) (.t 53), none⟩]
@[simp] def f159r18 : List ROper := [
  ⟨some 54, .mv (.t 9), none⟩,
  ⟨some 55, .mv (.t 10), none⟩,
  ⟨some 56, .mv (.t 0), none⟩,
  ⟨some 57, .faddr 0 (.t 11), none⟩,
  ⟨some 58, .load 1 false (.t 57), none⟩,
  ⟨some 59, .faddr 1 (.t 11), none⟩,
  ⟨some 60, .load 1 false (.t 59), none⟩,
  ⟨some 61, .slice true 1 (.t 56) (some (.t 58)) (some (.t 60)) none, none⟩,
  ⟨some 62, .iaddr 1 (.t 54) (.t 55), none⟩,
  ⟨none, .store 1 (.t 62) (.t 61), none⟩]
@[simp] def f159r19 : List ROper := [
  ⟨some 63, .bin .add (.t 49) (.c (.int .i64 (.ofNat 1))), none⟩,
  ⟨some 49, .mv (.t 63), none⟩]
def f159B1 : RC := (.seq (.region f159r16 [0, 9, 47, 48, 49, 50]) (.seq (.cond (.t 50) .skip (.exit 2)) (.seq (.block 3 (.seq (.region f159r17 [0, 9, 10, 11, 47, 48, 49]) (.region f159r18 [0, 9, 47, 48, 49]))) (.region f159r19 [0, 9, 47, 48, 49]))))
def f159L1 : RC := .loop [0, 9, 47, 48, 49] f159B1
@[simp] def f159r20 : List ROper := [
  ⟨some 64, .mv (.t 9), none⟩,
  ⟨some 4, .mv (.t 64), none⟩]
def f159 : RFunc := ⟨[.t 4], (.seq (.region f159r0 [0, 1]) (.seq (.region f159r1 [0, 1, 5]) (.seq (.region f159r2 [0, 1, 5, 6]) (.seq (.seq (.region f159r3 [0, 1, 5, 6]) (.block 0 f159L0)) (.seq (.seq (.region f159r12 [0, 5, 6, 36]) (.cond (.t 36) (.region f159r13 [0, 5]) .skip)) (.seq (.region f159r14 [0, 5, 9]) (.seq (.seq (.region f159r15 [0, 9, 47, 48, 49]) (.block 2 f159L1)) (.seq (.region f159r20 [4]) .ret)))))))), false⟩

/-! unicode.IsSpace -/
@[simp] def f160r0 : List ROper := [
  ⟨some 2, .mv (.c (.bool false)), none⟩]
@[simp] def f160r1 : List ROper := [
  ⟨some 3, .mv (.t 0), none⟩,
  ⟨some 4, .i2i .u32 (.t 3), none⟩,
  ⟨some 5, .bin .leq (.t 4) (.c (.int .u32 (.ofNat 255))), none⟩]
@[simp] def f160r2 : List ROper := [
  ⟨some 6, .mv (.t 0), none⟩]
@[simp] def f160r3 : List ROper := [
  ⟨some 8, .bin .eql (.t 6) (.c (.int .i32 (.ofNat 9))), none⟩,
  ⟨some 7, .mv (.t 8), none⟩]
@[simp] def f160r4 : List ROper := [
  ⟨some 9, .bin .eql (.t 6) (.c (.int .i32 (.ofNat 10))), none⟩,
  ⟨some 7, .mv (.t 9), none⟩]
@[simp] def f160r5 : List ROper := [
  ⟨some 10, .bin .eql (.t 6) (.c (.int .i32 (.ofNat 11))), none⟩,
  ⟨some 7, .mv (.t 10), none⟩]
@[simp] def f160r6 : List ROper := [
  ⟨some 11, .bin .eql (.t 6) (.c (.int .i32 (.ofNat 12))), none⟩,
  ⟨some 7, .mv (.t 11), none⟩]
@[simp] def f160r7 : List ROper := [
  ⟨some 12, .bin .eql (.t 6) (.c (.int .i32 (.ofNat 13))), none⟩,
  ⟨some 7, .mv (.t 12), none⟩]
@[simp] def f160r8 : List ROper := [
  ⟨some 13, .bin .eql (.t 6) (.c (.int .i32 (.ofNat 32))), none⟩,
  ⟨some 7, .mv (.t 13), none⟩]
@[simp] def f160r9 : List ROper := [
  ⟨some 14, .bin .eql (.t 6) (.c (.int .i32 (.ofNat 133))), none⟩,
  ⟨some 7, .mv (.t 14), none⟩]
@[simp] def f160r10 : List ROper := [
  ⟨some 15, .bin .eql (.t 6) (.c (.int .i32 (.ofNat 160))), none⟩,
  ⟨some 7, .mv (.t 15), none⟩]
@[simp] def f160r11 : List ROper := [
  ⟨some 2, .mv (.c (.bool true)), none⟩]
@[simp] def f160r12 : List ROper := [
  ⟨some 2, .mv (.c (.bool false)), none⟩]
@[simp] def f160r13 : List ROper := [
  ⟨some 16, .fail, none⟩,
  ⟨some 17, .mv (.t 0), none⟩,
  ⟨some 18, .call 165 [(.t 16), (.t 17)], none⟩,
  ⟨some 2, .mv (.t 18), none⟩]
def f160 : RFunc := ⟨[.t 2], (.seq (.region f160r0 [0]) (.seq (.seq (.region f160r1 [0, 5]) (.cond (.t 5) (.seq (.seq (.region f160r2 [6]) (.block 0 (.seq (.seq (.region f160r3 [6, 7]) (.cond (.t 7) .skip (.seq (.region f160r4 [6, 7]) (.cond (.t 7) .skip (.seq (.region f160r5 [6, 7]) (.cond (.t 7) .skip (.seq (.region f160r6 [6, 7]) (.cond (.t 7) .skip (.seq (.region f160r7 [6, 7]) (.cond (.t 7) .skip (.seq (.region f160r8 [6, 7]) (.cond (.t 7) .skip (.seq (.region f160r9 [6, 7]) (.cond (.t 7) .skip (.region f160r10 [7]))))))))))))))) (.cond (.t 7) (.seq (.region f160r11 [2]) .ret) .skip)))) (.seq (.region f160r12 [2]) .ret)) .skip)) (.seq (.region f160r13 [2]) .ret))), true⟩

/-! quire/hyph.small -/
@[simp] def f161r0 : List ROper := [
  ⟨some 2, .mv (.c (.bool false)), none⟩]
@[simp] def f161r1 : List ROper := [
  ⟨some 3, .mv (.t 0), none⟩,
  ⟨some 4, .bin .geq (.t 3) (.c (.int .u8 (.ofNat 97))), none⟩,
  ⟨some 5, .mv (.t 4), none⟩,
  ⟨some 6, .mv (.t 0), some (5, true)⟩,
  ⟨some 7, .bin .leq (.t 6) (.c (.int .u8 (.ofNat 122))), some (5, true)⟩,
  ⟨some 8, .pick (.t 5) (.t 7) (.c (.bool false)), none⟩,
  ⟨some 2, .mv (.t 8), none⟩]
def f161 : RFunc := ⟨[.t 2], (.seq (.region f161r0 [0]) (.seq (.region f161r1 [2]) .ret)), true⟩

/-! cmp.isNaN[int] -/
@[simp] def f162r0 : List ROper := [
  ⟨some 2, .mv (.c (.bool false)), none⟩]
@[simp] def f162r1 : List ROper := [
  ⟨some 3, .mv (.t 0), none⟩,
  ⟨some 4, .mv (.t 0), none⟩,
  ⟨some 5, .bin .neq (.t 3) (.t 4), none⟩,
  ⟨some 2, .mv (.t 5), none⟩]
def f162 : RFunc := ⟨[.t 2], (.seq (.region f162r0 [0]) (.seq (.region f162r1 [2]) .ret)), true⟩

/-! quire/hyph.digit -/
@[simp] def f163r0 : List ROper := [
  ⟨some 2, .mv (.c (.bool false)), none⟩]
@[simp] def f163r1 : List ROper := [
  ⟨some 3, .mv (.t 0), none⟩,
  ⟨some 4, .bin .geq (.t 3) (.c (.int .u8 (.ofNat 48))), none⟩,
  ⟨some 5, .mv (.t 4), none⟩,
  ⟨some 6, .mv (.t 0), some (5, true)⟩,
  ⟨some 7, .bin .leq (.t 6) (.c (.int .u8 (.ofNat 57))), some (5, true)⟩,
  ⟨some 8, .pick (.t 5) (.t 7) (.c (.bool false)), none⟩,
  ⟨some 2, .mv (.t 8), none⟩]
def f163 : RFunc := ⟨[.t 2], (.seq (.region f163r0 [0]) (.seq (.region f163r1 [2]) .ret)), true⟩

/-! slices.Clone[[]byte,byte] -/
@[simp] def f164r0 : List ROper := [
  ⟨some 2, .mv (.c (.list 0 0 .no false [])), none⟩]
@[simp] def f164r1 : List ROper := [
  ⟨some 3, .mv (.t 0), none⟩,
  ⟨some 4, .eq .slice false (.t 3) (.c (.list 0 0 .no false [])), none⟩]
@[simp] def f164r2 : List ROper := [
  ⟨some 2, .mv (.c (.list 0 0 .no false [])), none⟩]
@[simp] def f164r3 : List ROper := [
  ⟨some 5, .lit 1 false [(.int .u8 (.ofNat 0))] 0 [], none⟩,
  ⟨some 6, .mv (.t 0), none⟩,
  ⟨some 7, .append 1 false 1 (.t 5) (.t 6), none⟩,
  ⟨some 2, .mv (.t 7), none⟩]
def f164 : RFunc := ⟨[.t 2], (.seq (.region f164r0 [0]) (.seq (.seq (.region f164r1 [0, 4]) (.cond (.t 4) (.seq (.region f164r2 [2]) .ret) .skip)) (.seq (.region f164r3 [2]) .ret))), true⟩

/-! unicode.isExcludingLatin -/
@[simp] def f165r0 : List ROper := [
  ⟨some 4, .mv (.c (.bool false)), none⟩]
@[simp] def f165r1 : List ROper := [
  ⟨some 8, .mv (.t 0), none⟩,
  ⟨some 9, .nilchk (.t 8), none⟩,
  ⟨some 10, .faddr 0 (.t 9), none⟩,
  ⟨some 11, .load 1 false (.t 10), none⟩,
  ⟨some 5, .mv (.t 11), none⟩]
@[simp] def f165r2 : List ROper := [
  ⟨some 12, .mv (.t 0), none⟩,
  ⟨some 13, .nilchk (.t 12), none⟩,
  ⟨some 14, .faddr 2 (.t 13), none⟩,
  ⟨some 15, .load 1 false (.t 14), none⟩,
  ⟨some 6, .mv (.t 15), none⟩]
@[simp] def f165r3 : List ROper := [
  ⟨some 16, .mv (.t 5), none⟩,
  ⟨some 17, .len .slice (.t 16), none⟩,
  ⟨some 18, .mv (.t 6), none⟩,
  ⟨some 19, .bin .gtr (.t 17) (.t 18), none⟩,
  ⟨some 20, .mv (.t 19), none⟩,
  ⟨some 21, .mv (.t 1), some (20, true)⟩,
  ⟨some 22, .i2i .u32 (.t 21), some (20, true)⟩,
  ⟨some 23, .mv (.t 5), some (20, true)⟩,
  ⟨some 24, .mv (.t 5), some (20, true)⟩,
  ⟨some 25, .len .slice (.t 24), some (20, true)⟩,
  ⟨some 26, .bin .sub (.t 25) (.c (.int .i64 (.ofNat 1))), some (20, true)⟩,
  ⟨some 27, .iaddr 3 (.t 23) (.t 26), some (20, true)⟩,
  ⟨some 28, .faddr 1 (.t 27), some (20, true)⟩,
  ⟨some 29, .load 1 false (.t 28), some (20, true)⟩,
  ⟨some 30, .i2i .u32 (.t 29), some (20, true)⟩,
  ⟨some 31, .bin .leq (.t 22) (.t 30), some (20, true)⟩,
  ⟨some 32, .pick (.t 20) (.t 31) (.c (.bool false)), none⟩]
@[simp] def f165r4 : List ROper := [
  ⟨some 33, .mv (.t 5), none⟩,
  ⟨some 34, .mv (.t 6), none⟩,
  ⟨some 35, .slice false 3 (.t 33) (some (.t 34)) none none, none⟩,
  ⟨some 36, .mv (.t 1), none⟩,
  ⟨some 37, .i2i .u16 (.t 36), none⟩,
  ⟨some 38, .call 166 [(.t 35), (.t 37)], none⟩,
  ⟨some 4, .mv (.t 38), none⟩]
@[simp] def f165r5 : List ROper := [
  ⟨some 39, .mv (.t 0), none⟩,
  ⟨some 40, .nilchk (.t 39), none⟩,
  ⟨some 41, .faddr 1 (.t 40), none⟩,
  ⟨some 42, .load 1 false (.t 41), none⟩,
  ⟨some 7, .mv (.t 42), none⟩]
@[simp] def f165r6 : List ROper := [
  ⟨some 43, .mv (.t 7), none⟩,
  ⟨some 44, .len .slice (.t 43), none⟩,
  ⟨some 45, .bin .gtr (.t 44) (.c (.int .i64 (.ofNat 0))), none⟩,
  ⟨some 46, .mv (.t 45), none⟩,
  ⟨some 47, .mv (.t 1), some (46, true)⟩,
  ⟨some 48, .mv (.t 7), some (46, true)⟩,
  ⟨some 49, .iaddr 3 (.t 48) (.c (.int .i64 (.ofNat 0))), some (46, true)⟩,
  ⟨some 50, .faddr 0 (.t 49), some (46, true)⟩,
  ⟨some 51, .load 1 false (.t 50), some (46, true)⟩,
  ⟨some 52, .i2i .i32 (.t 51), some (46, true)⟩,
  ⟨some 53, .bin .geq (.t 47) (.t 52), some (46, true)⟩,
  ⟨some 54, .pick (.t 46) (.t 53) (.c (.bool false)), none⟩]
@[simp] def f165r7 : List ROper := [
  ⟨some 55, .mv (.t 7), none⟩,
  ⟨some 56, .mv (.t 1), none⟩,
  ⟨some 57, .i2i .u32 (.t 56), none⟩,
  ⟨some 58, .call 167 [(.t 55), (.t 57)], none⟩,
  ⟨some 4, .mv (.t 58), none⟩]
@[simp] def f165r8 : List ROper := [
  ⟨some 4, .mv (.c (.bool false)), none⟩]
def f165 : RFunc := ⟨[.t 4], (.seq (.region f165r0 [0, 1]) (.seq (.region f165r1 [0, 1, 5]) (.seq (.seq (.region f165r2 [0, 1, 5, 6]) (.seq (.region f165r3 [0, 1, 5, 6, 32]) (.cond (.t 32) (.seq (.region f165r4 [4]) .ret) .skip))) (.seq (.region f165r5 [1, 7]) (.seq (.seq (.region f165r6 [1, 7, 54]) (.cond (.t 54) (.seq (.region f165r7 [4]) .ret) .skip)) (.seq (.region f165r8 [4]) .ret)))))), false⟩

/-! unicode.is16 -/
@[simp] def f166r0 : List ROper := [
  ⟨some 4, .mv (.c (.bool false)), none⟩]
@[simp] def f166r1 : List ROper := [
  ⟨some 11, .mv (.t 0), none⟩,
  ⟨some 12, .len .slice (.t 11), none⟩,
  ⟨some 13, .bin .leq (.t 12) (.c (.int .i64 (.ofNat 18))), none⟩,
  ⟨some 14, .mv (.t 13), none⟩,
  ⟨some 15, .mv (.t 1), some (14, false)⟩,
  ⟨some 16, .bin .leq (.t 15) (.c (.int .u16 (.ofNat 255))), some (14, false)⟩,
  ⟨some 17, .pick (.t 14) (.c (.bool true)) (.t 16), none⟩]
@[simp] def f166r2 : List ROper := [
  ⟨some 18, .mv (.t 0), none⟩,
  ⟨some 19, .len .slice (.t 18), none⟩,
  ⟨some 20, .mv (.c (.int .i64 (.ofNat 0))), none⟩]
@[simp] def f166r3 : List ROper := [
  ⟨some 21, .bin .lss (.t 20) (.t 19), none⟩]
@[simp] def f166r4 : List ROper := [
  ⟨some 22, .mv (.t 20), none⟩,
  ⟨some 5, .mv (.t 22), none⟩]
@[simp] def f166r5 : List ROper := [
  ⟨some 23, .mv (.t 0), none⟩,
  ⟨some 24, .mv (.t 5), none⟩,
  ⟨some 25, .iaddr 3 (.t 23) (.t 24), none⟩,
  ⟨some 6, .mv (.t 25), none⟩]
@[simp] def f166r6 : List ROper := [
  ⟨some 26, .mv (.t 1), none⟩,
  ⟨some 27, .mv (.t 6), none⟩,
  ⟨some 28, .nilchk (.t 27), none⟩,
  ⟨some 29, .faddr 0 (.t 28), none⟩,
  ⟨some 30, .load 1 false (.t 29), none⟩,
  ⟨some 31, .bin .lss (.t 26) (.t 30), none⟩]
@[simp] def f166r7 : List ROper := [
  ⟨some 4, .mv (.c (.bool false)), none⟩]
@[simp] def f166r8 : List ROper := [
  ⟨some 32, .mv (.t 1), none⟩,
  ⟨some 33, .mv (.t 6), none⟩,
  ⟨some 34, .nilchk (.t 33), none⟩,
  ⟨some 35, .faddr 1 (.t 34), none⟩,
  ⟨some 36, .load 1 false (.t 35), none⟩,
  ⟨some 37, .bin .leq (.t 32) (.t 36), none⟩]
@[simp] def f166r9 : List ROper := [
  ⟨some 38, .mv (.t 6), none⟩,
  ⟨some 39, .nilchk (.t 38), none⟩,
  ⟨some 40, .faddr 2 (.t 39), none⟩,
  ⟨some 41, .load 1 false (.t 40), none⟩,
  ⟨some 42, .bin .eql (.t 41) (.c (.int .u16 (.ofNat 1))), none⟩,
  ⟨some 43, .mv (.t 42), none⟩,
  ⟨some 44, .mv (.t 1), some (43, false)⟩,
  ⟨some 45, .mv (.t 6), some (43, false)⟩,
  ⟨some 46, .nilchk (.t 45), some (43, false)⟩,
  ⟨some 47, .faddr 0 (.t 46), some (43, false)⟩,
  ⟨some 48, .load 1 false (.t 47), some (43, false)⟩,
  ⟨some 49, .bin .sub (.t 44) (.t 48), some (43, false)⟩,
  ⟨some 50, .mv (.t 6), some (43, false)⟩,
  ⟨some 51, .nilchk (.t 50), some (43, false)⟩,
  ⟨some 52, .faddr 2 (.t 51), some (43, false)⟩,
  ⟨some 53, .load 1 false (.t 52), some (43, false)⟩,
  ⟨some 54, .bin .rem (.t 49) (.t 53), some (43, false)⟩,
  ⟨some 55, .bin .eql (.t 54) (.c (.int .u16 (.ofNat 0))), some (43, false)⟩,
  ⟨some 56, .pick (.t 43) (.c (.bool true)) (.t 55), none⟩,
  ⟨some 4, .mv (.t 56), none⟩]
@[simp] def f166r10 : List ROper := [
  ⟨some 57, .bin .add (.t 20) (.c (.int .i64 (.ofNat 1))), none⟩,
  ⟨some 20, .mv (.t 57), none⟩]
def f166B0 : RC := (.seq (.region f166r3 [0, 1, 19, 20, 21]) (.seq (.cond (.t 21) .skip (.exit 0)) (.seq (.block 1 (.seq (.region f166r4 [0, 1, 5, 19, 20]) (.seq (.region f166r5 [0, 1, 6, 19, 20]) (.seq (.seq (.region f166r6 [0, 1, 6, 19, 20, 31]) (.cond (.t 31) (.seq (.region f166r7 [4]) .ret) .skip)) (.seq (.region f166r8 [0, 1, 6, 19, 20, 37]) (.cond (.t 37) (.seq (.dregion f166r9 [] [] [4]) .ret) .skip)))))) (.region f166r10 [0, 1, 19, 20]))))
def f166L0 : RC := .loop [0, 1, 19, 20] f166B0
@[simp] def f166r11 : List ROper := [
  ⟨some 4, .mv (.c (.bool false)), none⟩]
@[simp] def f166r12 : List ROper := [
  ⟨some 7, .mv (.c (.int .i64 (.ofNat 0))), none⟩]
@[simp] def f166r13 : List ROper := [
  ⟨some 58, .mv (.t 0), none⟩,
  ⟨some 59, .len .slice (.t 58), none⟩,
  ⟨some 8, .mv (.t 59), none⟩]
@[simp] def f166r14 : List ROper := [
  ⟨some 60, .mv (.t 7), none⟩,
  ⟨some 61, .mv (.t 8), none⟩,
  ⟨some 62, .bin .lss (.t 60) (.t 61), none⟩]
@[simp] def f166r15 : List ROper := [
  ⟨some 63, .mv (.t 7), none⟩,
  ⟨some 64, .mv (.t 8), none⟩,
  ⟨some 65, .bin .add (.t 63) (.t 64), none⟩,
  ⟨some 66, .i2i .u64 (.t 65), none⟩,
  ⟨some 67, .bin .shr (.t 66) (.c (.int .u64 (.ofNat 1))), none⟩,
  ⟨some 68, .i2i .i64 (.t 67), none⟩,
  ⟨some 9, .mv (.t 68), none⟩]
@[simp] def f166r16 : List ROper := [
  ⟨some 69, .mv (.t 0), none⟩,
  ⟨some 70, .mv (.t 9), none⟩,
  ⟨some 71, .iaddr 3 (.t 69) (.t 70), none⟩,
  ⟨some 10, .mv (.t 71), none⟩]
@[simp] def f166r17 : List ROper := [
  ⟨some 72, .mv (.t 10), none⟩,
  ⟨some 73, .nilchk (.t 72), none⟩,
  ⟨some 74, .faddr 0 (.t 73), none⟩,
  ⟨some 75, .load 1 false (.t 74), none⟩,
  ⟨some 76, .mv (.t 1), none⟩,
  ⟨some 77, .bin .leq (.t 75) (.t 76), none⟩,
  ⟨some 78, .mv (.t 77), none⟩,
  ⟨some 79, .mv (.t 1), some (78, true)⟩,
  ⟨some 80, .mv (.t 10), some (78, true)⟩,
  ⟨some 81, .nilchk (.t 80), some (78, true)⟩,
  ⟨some 82, .faddr 1 (.t 81), some (78, true)⟩,
  ⟨some 83, .load 1 false (.t 82), some (78, true)⟩,
  ⟨some 84, .bin .leq (.t 79) (.t 83), some (78, true)⟩,
  ⟨some 85, .pick (.t 78) (.t 84) (.c (.bool false)), none⟩]
@[simp] def f166r18 : List ROper := [
  ⟨some 86, .mv (.t 10), none⟩,
  ⟨some 87, .nilchk (.t 86), none⟩,
  ⟨some 88, .faddr 2 (.t 87), none⟩,
  ⟨some 89, .load 1 false (.t 88), none⟩,
  ⟨some 90, .bin .eql (.t 89) (.c (.int .u16 (.ofNat 1))), none⟩,
  ⟨some 91, .mv (.t 90), none⟩,
  ⟨some 92, .mv (.t 1), some (91, false)⟩,
  ⟨some 93, .mv (.t 10), some (91, false)⟩,
  ⟨some 94, .nilchk (.t 93), some (91, false)⟩,
  ⟨some 95, .faddr 0 (.t 94), some (91, false)⟩,
  ⟨some 96, .load 1 false (.t 95), some (91, false)⟩,
  ⟨some 97, .bin .sub (.t 92) (.t 96), some (91, false)⟩,
  ⟨some 98, .mv (.t 10), some (91, false)⟩,
  ⟨some 99, .nilchk (.t 98), some (91, false)⟩,
  ⟨some 100, .faddr 2 (.t 99), some (91, false)⟩,
  ⟨some 101, .load 1 false (.t 100), some (91, false)⟩,
  ⟨some 102, .bin .rem (.t 97) (.t 101), some (91, false)⟩,
  ⟨some 103, .bin .eql (.t 102) (.c (.int .u16 (.ofNat 0))), some (91, false)⟩,
  ⟨some 104, .pick (.t 91) (.c (.bool true)) (.t 103), none⟩,
  ⟨some 4, .mv (.t 104), none⟩]
@[simp] def f166r19 : List ROper := [
  ⟨some 105, .mv (.t 1), none⟩,
  ⟨some 106, .mv (.t 10), none⟩,
  ⟨some 107, .nilchk (.t 106), none⟩,
  ⟨some 108, .faddr 0 (.t 107), none⟩,
  ⟨some 109, .load 1 false (.t 108), none⟩,
  ⟨some 110, .bin .lss (.t 105) (.t 109), none⟩]
@[simp] def f166r20 : List ROper := [
  ⟨some 111, .mv (.t 9), none⟩,
  ⟨some 8, .mv (.t 111), none⟩]
@[simp] def f166r21 : List ROper := [
  ⟨some 112, .mv (.t 9), none⟩,
  ⟨some 113, .bin .add (.t 112) (.c (.int .i64 (.ofNat 1))), none⟩,
  ⟨some 7, .mv (.t 113), none⟩]
def f166B1 : RC := (.seq (.seq (.region f166r14 [0, 1, 7, 8, 62]) (.cond (.t 62) .skip (.exit 2))) (.block 3 (.seq (.region f166r15 [0, 1, 7, 8, 9]) (.seq (.region f166r16 [0, 1, 7, 8, 9, 10]) (.seq (.seq (.region f166r17 [0, 1, 7, 8, 9, 10, 85]) (.cond (.t 85) (.seq (.dregion f166r18 [] [] [4]) .ret) .skip)) (.seq (.region f166r19 [0, 1, 7, 8, 9, 110]) (.cond (.t 110) (.region f166r20 [0, 1, 7, 8]) (.region f166r21 [0, 1, 7, 8]))))))))
def f166L1 : RC := .loop [0, 1, 7, 8] f166B1
@[simp] def f166r22 : List ROper := [
  ⟨some 4, .mv (.c (.bool false)), none⟩]
def f166 : RFunc := ⟨[.t 4], (.seq (.region f166r0 [0, 1]) (.seq (.seq (.region f166r1 [0, 1, 17]) (.cond (.t 17) (.seq (.seq (.region f166r2 [0, 1, 19, 20]) (.block 0 f166L0)) (.seq (.region f166r11 [4]) .ret)) .skip)) (.seq (.region f166r12 [0, 1, 7]) (.seq (.region f166r13 [0, 1, 7, 8]) (.seq (.block 2 f166L1) (.seq (.region f166r22 [4]) .ret)))))), true⟩

/-! unicode.is32 -/
@[simp] def f167r0 : List ROper := [
  ⟨some 4, .mv (.c (.bool false)), none⟩]
@[simp] def f167r1 : List ROper := [
  ⟨some 11, .mv (.t 0), none⟩,
  ⟨some 12, .len .slice (.t 11), none⟩,
  ⟨some 13, .bin .leq (.t 12) (.c (.int .i64 (.ofNat 18))), none⟩]
@[simp] def f167r2 : List ROper := [
  ⟨some 14, .mv (.t 0), none⟩,
  ⟨some 15, .len .slice (.t 14), none⟩,
  ⟨some 16, .mv (.c (.int .i64 (.ofNat 0))), none⟩]
@[simp] def f167r3 : List ROper := [
  ⟨some 17, .bin .lss (.t 16) (.t 15), none⟩]
@[simp] def f167r4 : List ROper := [
  ⟨some 18, .mv (.t 16), none⟩,
  ⟨some 5, .mv (.t 18), none⟩]
@[simp] def f167r5 : List ROper := [
  ⟨some 19, .mv (.t 0), none⟩,
  ⟨some 20, .mv (.t 5), none⟩,
  ⟨some 21, .iaddr 3 (.t 19) (.t 20), none⟩,
  ⟨some 6, .mv (.t 21), none⟩]
@[simp] def f167r6 : List ROper := [
  ⟨some 22, .mv (.t 1), none⟩,
  ⟨some 23, .mv (.t 6), none⟩,
  ⟨some 24, .nilchk (.t 23), none⟩,
  ⟨some 25, .faddr 0 (.t 24), none⟩,
  ⟨some 26, .load 1 false (.t 25), none⟩,
  ⟨some 27, .bin .lss (.t 22) (.t 26), none⟩]
@[simp] def f167r7 : List ROper := [
  ⟨some 4, .mv (.c (.bool false)), none⟩]
@[simp] def f167r8 : List ROper := [
  ⟨some 28, .mv (.t 1), none⟩,
  ⟨some 29, .mv (.t 6), none⟩,
  ⟨some 30, .nilchk (.t 29), none⟩,
  ⟨some 31, .faddr 1 (.t 30), none⟩,
  ⟨some 32, .load 1 false (.t 31), none⟩,
  ⟨some 33, .bin .leq (.t 28) (.t 32), none⟩]
@[simp] def f167r9 : List ROper := [
  ⟨some 34, .mv (.t 6), none⟩,
  ⟨some 35, .nilchk (.t 34), none⟩,
  ⟨some 36, .faddr 2 (.t 35), none⟩,
  ⟨some 37, .load 1 false (.t 36), none⟩,
  ⟨some 38, .bin .eql (.t 37) (.c (.int .u32 (.ofNat 1))), none⟩,
  ⟨some 39, .mv (.t 38), none⟩,
  ⟨some 40, .mv (.t 1), some (39, false)⟩,
  ⟨some 41, .mv (.t 6), some (39, false)⟩,
  ⟨some 42, .nilchk (.t 41), some (39, false)⟩,
  ⟨some 43, .faddr 0 (.t 42), some (39, false)⟩,
  ⟨some 44, .load 1 false (.t 43), some (39, false)⟩,
  ⟨some 45, .bin .sub (.t 40) (.t 44), some (39, false)⟩,
  ⟨some 46, .mv (.t 6), some (39, false)⟩,
  ⟨some 47, .nilchk (.t 46), some (39, false)⟩,
  ⟨some 48, .faddr 2 (.t 47), some (39, false)⟩,
  ⟨some 49, .load 1 false (.t 48), some (39, false)⟩,
  ⟨some 50, .bin .rem (.t 45) (.t 49), some (39, false)⟩,
  ⟨some 51, .bin .eql (.t 50) (.c (.int .u32 (.ofNat 0))), some (39, false)⟩,
  ⟨some 52, .pick (.t 39) (.c (.bool true)) (.t 51), none⟩,
  ⟨some 4, .mv (.t 52), none⟩]
@[simp] def f167r10 : List ROper := [
  ⟨some 53, .bin .add (.t 16) (.c (.int .i64 (.ofNat 1))), none⟩,
  ⟨some 16, .mv (.t 53), none⟩]
def f167B0 : RC := (.seq (.region f167r3 [0, 1, 15, 16, 17]) (.seq (.cond (.t 17) .skip (.exit 0)) (.seq (.block 1 (.seq (.region f167r4 [0, 1, 5, 15, 16]) (.seq (.region f167r5 [0, 1, 6, 15, 16]) (.seq (.seq (.region f167r6 [0, 1, 6, 15, 16, 27]) (.cond (.t 27) (.seq (.region f167r7 [4]) .ret) .skip)) (.seq (.region f167r8 [0, 1, 6, 15, 16, 33]) (.cond (.t 33) (.seq (.dregion f167r9 [] [] [4]) .ret) .skip)))))) (.region f167r10 [0, 1, 15, 16]))))
def f167L0 : RC := .loop [0, 1, 15, 16] f167B0
@[simp] def f167r11 : List ROper := [
  ⟨some 4, .mv (.c (.bool false)), none⟩]
@[simp] def f167r12 : List ROper := [
  ⟨some 7, .mv (.c (.int .i64 (.ofNat 0))), none⟩]
@[simp] def f167r13 : List ROper := [
  ⟨some 54, .mv (.t 0), none⟩,
  ⟨some 55, .len .slice (.t 54), none⟩,
  ⟨some 8, .mv (.t 55), none⟩]
@[simp] def f167r14 : List ROper := [
  ⟨some 56, .mv (.t 7), none⟩,
  ⟨some 57, .mv (.t 8), none⟩,
  ⟨some 58, .bin .lss (.t 56) (.t 57), none⟩]
@[simp] def f167r15 : List ROper := [
  ⟨some 59, .mv (.t 7), none⟩,
  ⟨some 60, .mv (.t 8), none⟩,
  ⟨some 61, .bin .add (.t 59) (.t 60), none⟩,
  ⟨some 62, .i2i .u64 (.t 61), none⟩,
  ⟨some 63, .bin .shr (.t 62) (.c (.int .u64 (.ofNat 1))), none⟩,
  ⟨some 64, .i2i .i64 (.t 63), none⟩,
  ⟨some 9, .mv (.t 64), none⟩]
@[simp] def f167r16 : List ROper := [
  ⟨some 65, .mv (.t 0), none⟩,
  ⟨some 66, .mv (.t 9), none⟩,
  ⟨some 67, .iaddr 3 (.t 65) (.t 66), none⟩,
  ⟨some 68, .load 3 true (.t 67), none⟩,
  ⟨some 10, .alloc [(.int .u32 (.ofNat 0)), (.int .u32 (.ofNat 0)), (.int .u32 (.ofNat 0))], none⟩,
  ⟨none, .store 3 (.t 10) (.t 68), none⟩]
@[simp] def f167r17 : List ROper := [
  ⟨some 69, .faddr 0 (.t 10), none⟩,
  ⟨some 70, .load 1 false (.t 69), none⟩,
  ⟨some 71, .mv (.t 1), none⟩,
  ⟨some 72, .bin .leq (.t 70) (.t 71), none⟩,
  ⟨some 73, .mv (.t 72), none⟩,
  ⟨some 74, .mv (.t 1), some (73, true)⟩,
  ⟨some 75, .faddr 1 (.t 10), some (73, true)⟩,
  ⟨some 76, .load 1 false (.t 75), some (73, true)⟩,
  ⟨some 77, .bin .leq (.t 74) (.t 76), some (73, true)⟩,
  ⟨some 78, .pick (.t 73) (.t 77) (.c (.bool false)), none⟩]
@[simp] def f167r18 : List ROper := [
  ⟨some 79, .faddr 2 (.t 10), none⟩,
  ⟨some 80, .load 1 false (.t 79), none⟩,
  ⟨some 81, .bin .eql (.t 80) (.c (.int .u32 (.ofNat 1))), none⟩,
  ⟨some 82, .mv (.t 81), none⟩,
  ⟨some 83, .mv (.t 1), some (82, false)⟩,
  ⟨some 84, .faddr 0 (.t 10), some (82, false)⟩,
  ⟨some 85, .load 1 false (.t 84), some (82, false)⟩,
  ⟨some 86, .bin .sub (.t 83) (.t 85), some (82, false)⟩,
  ⟨some 87, .faddr 2 (.t 10), some (82, false)⟩,
  ⟨some 88, .load 1 false (.t 87), some (82, false)⟩,
  ⟨some 89, .bin .rem (.t 86) (.t 88), some (82, false)⟩,
  ⟨some 90, .bin .eql (.t 89) (.c (.int .u32 (.ofNat 0))), some (82, false)⟩,
  ⟨some 91, .pick (.t 82) (.c (.bool true)) (.t 90), none⟩,
  ⟨some 4, .mv (.t 91), none⟩]
@[simp] def f167r19 : List ROper := [
  ⟨some 92, .mv (.t 1), none⟩,
  ⟨some 93, .faddr 0 (.t 10), none⟩,
  ⟨some 94, .load 1 false (.t 93), none⟩,
  ⟨some 95, .bin .lss (.t 92) (.t 94), none⟩]
@[simp] def f167r20 : List ROper := [
  ⟨some 96, .mv (.t 9), none⟩,
  ⟨some 8, .mv (.t 96), none⟩]
@[simp] def f167r21 : List ROper := [
  ⟨some 97, .mv (.t 9), none⟩,
  ⟨some 98, .bin .add (.t 97) (.c (.int .i64 (.ofNat 1))), none⟩,
  ⟨some 7, .mv (.t 98), none⟩]
def f167B1 : RC := (.seq (.seq (.region f167r14 [0, 1, 7, 8, 58]) (.cond (.t 58) .skip (.exit 2))) (.block 3 (.seq (.region f167r15 [0, 1, 7, 8, 9]) (.seq (.region f167r16 [0, 1, 7, 8, 9, 10]) (.seq (.seq (.region f167r17 [0, 1, 7, 8, 9, 10, 78]) (.cond (.t 78) (.seq (.region f167r18 [4]) .ret) .skip)) (.seq (.region f167r19 [0, 1, 7, 8, 9, 95]) (.cond (.t 95) (.region f167r20 [0, 1, 7, 8]) (.region f167r21 [0, 1, 7, 8]))))))))
def f167L1 : RC := .loop [0, 1, 7, 8] f167B1
@[simp] def f167r22 : List ROper := [
  ⟨some 4, .mv (.c (.bool false)), none⟩]
def f167 : RFunc := ⟨[.t 4], (.seq (.region f167r0 [0, 1]) (.seq (.seq (.region f167r1 [0, 1, 13]) (.cond (.t 13) (.seq (.seq (.region f167r2 [0, 1, 15, 16]) (.block 0 f167L0)) (.seq (.region f167r11 [4]) .ret)) .skip)) (.seq (.region f167r12 [0, 1, 7]) (.seq (.region f167r13 [0, 1, 7, 8]) (.seq (.block 2 f167L1) (.seq (.region f167r22 [4]) .ret)))))), true⟩

/-! quire/quireref08.After -/
@[simp] def f241r0 : List ROper := [
  ⟨some 4, .alloc [(.int .i64 (.ofNat 0)), (.int .i64 (.ofNat 0))], none⟩]
@[simp] def f241r1 : List ROper := [
  ⟨some 5, .mv (.c (.int .i64 (.ofNat 0))), none⟩]
@[simp] def f241r2 : List ROper := [
  ⟨some 6, .mv (.t 5), none⟩,
  ⟨some 7, .mv (.t 0), none⟩,
  ⟨some 8, .len .slice (.t 7), none⟩,
  ⟨some 9, .bin .lss (.t 6) (.t 8), none⟩]
@[simp] def f241r3 : List ROper := [
  ⟨some 12, .mv (.t 0), none⟩,
  ⟨some 13, .mv (.t 5), none⟩,
  ⟨some 14, .iaddr 2 (.t 12) (.t 13), none⟩,
  ⟨some 15, .faddr 0 (.t 14), none⟩,
  ⟨some 16, .load 1 false (.t 15), none⟩,
  ⟨some 17, .mv (.t 1), none⟩,
  ⟨some 18, .bin .gtr (.t 16) (.t 17), none⟩]
@[simp] def f241r4 : List ROper := [
  ⟨some 19, .mv (.t 0), none⟩,
  ⟨some 20, .mv (.t 5), none⟩,
  ⟨some 21, .iaddr 2 (.t 19) (.t 20), none⟩,
  ⟨some 22, .load 2 true (.t 21), none⟩,
  ⟨none, .store 2 (.t 4) (.t 22), none⟩]
@[simp] def f241r5 : List ROper := [
  ⟨some 10, .mv (.t 5), none⟩,
  ⟨some 11, .bin .add (.t 10) (.c (.int .i64 (.ofNat 1))), none⟩,
  ⟨some 5, .mv (.t 11), none⟩]
def f241B0 : RC := (.seq (.seq (.region f241r2 [0, 1, 4, 5, 9]) (.cond (.t 9) .skip (.exit 0))) (.seq (.block 1 (.seq (.region f241r3 [0, 1, 4, 5, 18]) (.cond (.t 18) (.seq (.region f241r4 [4]) .ret) .skip))) (.region f241r5 [0, 1, 4, 5])))
def f241L0 : RC := .loop [0, 1, 4, 5] f241B0
@[simp] def f241r6 : List ROper := [
  ⟨some 23, .mv (.t 1), none⟩,
  ⟨some 24, .bin .quo (.t 23) (.c (.int .i64 (.ofNat 48))), none⟩,
  ⟨some 25, .bin .add (.t 24) (.c (.int .i64 (.ofNat 1))), none⟩,
  ⟨some 26, .bin .mul (.t 25) (.c (.int .i64 (.ofNat 48))), none⟩,
  ⟨some 27, .build [(.int .i64 (.ofNat 0)), (.int .i64 (.ofNat 0))] [(0, 1, (.t 26))], none⟩,
  ⟨none, .store 2 (.t 4) (.t 27), none⟩]
def f241 : RFunc := ⟨[.cell 4 2 true], (.seq (.region f241r0 [0, 1, 4]) (.seq (.seq (.region f241r1 [0, 1, 4, 5]) (.block 0 f241L0)) (.seq (.region f241r6 [4]) .ret))), true⟩

/-! quire/quirekit.LentSlots -/
@[simp] def f310r0 : List ROper := [
  ⟨some 2, .mv (.c (.list 0 0 .no false [])), none⟩]
@[simp] def f310r1 : List ROper := [
  ⟨some 5, .mv (.t 0), none⟩,
  ⟨some 6, .len .slice (.t 5), none⟩,
  ⟨some 7, .bin .add (.t 6) (.c (.int .i64 (.ofNat 3))), none⟩,
  ⟨some 8, .mkslice 2 true 16 [(.int .i64 (.ofNat 0)), (.int .i64 (.ofNat 0))] (.t 7) (.t 7), none⟩,
  ⟨some 3, .mv (.t 8), none⟩]
@[simp] def f310r2 : List ROper := [
  ⟨some 9, .mv (.t 3), none⟩,
  ⟨some 10, .mv (.t 0), none⟩,
  ⟨some 11, .copy 2 (.t 9) (.t 10), none⟩]
@[simp] def f310r3 : List ROper := [
  ⟨some 12, .mv (.t 0), none⟩,
  ⟨some 13, .len .slice (.t 12), none⟩,
  ⟨some 4, .mv (.t 13), none⟩]
@[simp] def f310r4 : List ROper := [
  ⟨some 14, .mv (.t 4), none⟩,
  ⟨some 15, .mv (.t 3), none⟩,
  ⟨some 16, .len .slice (.t 15), none⟩,
  ⟨some 17, .bin .lss (.t 14) (.t 16), none⟩]
@[simp] def f310r5 : List ROper := [
  ⟨some 20, .mv (.t 3), none⟩,
  ⟨some 21, .mv (.t 4), none⟩,
  ⟨some 22, .mv (.t 4), none⟩,
  ⟨some 23, .build [(.int .i64 (.ofNat 0)), (.int .i64 (.ofNat 0))] [(0, 1, (.c (.int .i64 (.ofNat 777)))), (1, 1, (.t 22))], none⟩,
  ⟨some 24, .iaddr 2 (.t 20) (.t 21), none⟩,
  ⟨none, .store 2 (.t 24) (.t 23), none⟩]
@[simp] def f310r6 : List ROper := [
  ⟨some 18, .mv (.t 4), none⟩,
  ⟨some 19, .bin .add (.t 18) (.c (.int .i64 (.ofNat 1))), none⟩,
  ⟨some 4, .mv (.t 19), none⟩]
def f310B0 : RC := (.seq (.seq (.region f310r4 [0, 3, 4, 17]) (.cond (.t 17) .skip (.exit 0))) (.seq (.block 1 (.region f310r5 [0, 3, 4])) (.region f310r6 [0, 3, 4])))
def f310L0 : RC := .loop [0, 3, 4] f310B0
@[simp] def f310r7 : List ROper := [
  ⟨some 25, .mv (.t 3), none⟩,
  ⟨some 26, .mv (.t 0), none⟩,
  ⟨some 27, .len .slice (.t 26), none⟩,
  ⟨some 28, .slice false 2 (.t 25) none (some (.t 27)) none, none⟩,
  ⟨some 2, .mv (.t 28), none⟩]
def f310 : RFunc := ⟨[.t 2], (.seq (.region f310r0 [0]) (.seq (.region f310r1 [0, 3]) (.seq (.region f310r2 [0, 3]) (.seq (.seq (.region f310r3 [0, 3, 4]) (.block 0 f310L0)) (.seq (.region f310r7 [2]) .ret))))), false⟩

/-! quire/quirekit.SameSlots -/
@[simp] def f316r0 : List ROper := [
  ⟨some 4, .mv (.c (.bool false)), none⟩]
@[simp] def f316r1 : List ROper := [
  ⟨some 6, .mv (.t 0), none⟩,
  ⟨some 7, .len .slice (.t 6), none⟩,
  ⟨some 8, .mv (.t 1), none⟩,
  ⟨some 9, .len .slice (.t 8), none⟩,
  ⟨some 10, .bin .neq (.t 7) (.t 9), none⟩]
@[simp] def f316r2 : List ROper := [
  ⟨some 4, .mv (.c (.bool false)), none⟩]
@[simp] def f316r3 : List ROper := [
  ⟨some 5, .mv (.c (.int .i64 (.ofNat 0))), none⟩]
@[simp] def f316r4 : List ROper := [
  ⟨some 11, .mv (.t 5), none⟩,
  ⟨some 12, .mv (.t 0), none⟩,
  ⟨some 13, .len .slice (.t 12), none⟩,
  ⟨some 14, .bin .lss (.t 11) (.t 13), none⟩]
@[simp] def f316r5 : List ROper := [
  ⟨some 17, .mv (.t 0), none⟩,
  ⟨some 18, .mv (.t 5), none⟩,
  ⟨some 19, .iaddr 2 (.t 17) (.t 18), none⟩,
  ⟨some 20, .load 2 true (.t 19), none⟩,
  ⟨some 21, .mv (.t 1), none⟩,
  ⟨some 22, .mv (.t 5), none⟩,
  ⟨some 23, .iaddr 2 (.t 21) (.t 22), none⟩,
  ⟨some 24, .load 2 true (.t 23), none⟩,
  ⟨some 25, .eq (.agg [.int, .int]) true (.t 20) (.t 24), none⟩]
@[simp] def f316r6 : List ROper := [
  ⟨some 4, .mv (.c (.bool false)), none⟩]
@[simp] def f316r7 : List ROper := [
  ⟨some 15, .mv (.t 5), none⟩,
  ⟨some 16, .bin .add (.t 15) (.c (.int .i64 (.ofNat 1))), none⟩,
  ⟨some 5, .mv (.t 16), none⟩]
def f316B0 : RC := (.seq (.seq (.region f316r4 [0, 1, 5, 14]) (.cond (.t 14) .skip (.exit 0))) (.seq (.block 1 (.seq (.dregion f316r5 [] [] [0, 1, 5, 25]) (.cond (.t 25) (.seq (.region f316r6 [4]) .ret) .skip))) (.region f316r7 [0, 1, 5])))
def f316L0 : RC := .loop [0, 1, 5] f316B0
@[simp] def f316r8 : List ROper := [
  ⟨some 4, .mv (.c (.bool true)), none⟩]
def f316 : RFunc := ⟨[.t 4], (.seq (.region f316r0 [0, 1]) (.seq (.seq (.region f316r1 [0, 1, 10]) (.cond (.t 10) (.seq (.region f316r2 [4]) .ret) .skip)) (.seq (.seq (.region f316r3 [0, 1, 5]) (.block 0 f316L0)) (.seq (.region f316r8 [4]) .ret)))), true⟩

/-! quire/quirekit.KeptSlots -/
@[simp] def f318r0 : List ROper := [
  ⟨some 4, .mv (.c (.bool false)), none⟩]
@[simp] def f318r1 : List ROper := [
  ⟨some 5, .mv (.t 0), none⟩,
  ⟨some 6, .len .slice (.t 5), none⟩,
  ⟨some 7, .mv (.t 1), none⟩,
  ⟨some 8, .len .slice (.t 7), none⟩,
  ⟨some 9, .bin .eql (.t 6) (.t 8), none⟩,
  ⟨some 10, .mv (.t 9), none⟩,
  ⟨some 11, .mv (.t 0), some (10, true)⟩,
  ⟨some 12, .mv (.t 0), some (10, true)⟩,
  ⟨some 13, .cap (.t 12), some (10, true)⟩,
  ⟨some 14, .slice false 2 (.t 11) none (some (.t 13)) none, some (10, true)⟩,
  ⟨some 15, .mv (.t 1), some (10, true)⟩,
  ⟨some 16, .call 310 [(.t 15)], some (10, true)⟩,
  ⟨some 17, .mv (.t 1), some (10, true)⟩,
  ⟨some 18, .len .slice (.t 17), some (10, true)⟩,
  ⟨some 19, .bin .add (.t 18) (.c (.int .i64 (.ofNat 3))), some (10, true)⟩,
  ⟨some 20, .slice false 2 (.t 16) none (some (.t 19)) none, some (10, true)⟩,
  ⟨some 21, .call 316 [(.t 14), (.t 20)], some (10, true)⟩,
  ⟨some 22, .pick (.t 10) (.t 21) (.c (.bool false)), none⟩,
  ⟨some 4, .mv (.t 22), none⟩]
def f318 : RFunc := ⟨[.t 4], (.seq (.region f318r0 [0, 1]) (.seq (.dregion f318r1 [] [(13, [0])] [4]) .ret)), true⟩

/-! quire/item.Give -/
@[simp] def f322r0 : List ROper := [
  ⟨some 6, .mv (.c (.int .i64 (.ofNat 0))), none⟩,
  ⟨some 7, .mv (.c (.int .i64 (.ofNat 0))), none⟩,
  ⟨some 8, .mv (.c (.int .i64 (.ofNat 0))), none⟩]
@[simp] def f322r1 : List ROper := [
  ⟨some 14, .mv (.t 0), none⟩,
  ⟨some 15, .mv (.t 1), none⟩,
  ⟨some 16, .mv (.t 2), none⟩,
  ⟨some 17, .call 121 [(.t 14), (.t 15), (.t 16)], none⟩,
  ⟨some 9, .mv (.t 17), none⟩]
@[simp] def f322r2 : List ROper := [
  ⟨some 18, .mv (.t 9), none⟩,
  ⟨some 19, .bin .neq (.t 18) (.c (.int .i64 (.ofNat 0))), none⟩]
@[simp] def f322r3 : List ROper := [
  ⟨some 20, .mv (.t 9), none⟩,
  ⟨some 6, .mv (.c (.int .i64 (.ofNat 0))), none⟩,
  ⟨some 7, .mv (.c (.int .i64 (.ofNat 0))), none⟩,
  ⟨some 8, .mv (.t 20), none⟩]
@[simp] def f322r4 : List ROper := [
  ⟨some 10, .mv (.c (.int .i64 (.ofNat 0))), none⟩,
  ⟨some 11, .mv (.c (.int .i64 (.ofNat 0))), none⟩]
@[simp] def f322r5 : List ROper := [
  ⟨some 21, .mv (.t 0), none⟩,
  ⟨some 22, .mv (.t 1), none⟩,
  ⟨some 23, .mv (.t 2), none⟩,
  ⟨some 24, .call 123 [(.t 21), (.t 22), (.t 23)], none⟩,
  ⟨some 25, .len .slice (.t 24), none⟩,
  ⟨some 26, .mv (.c (.int .i64 (.ofNat 0))), none⟩]
@[simp] def f322r6 : List ROper := [
  ⟨some 27, .bin .lss (.t 26) (.t 25), none⟩]
@[simp] def f322r7 : List ROper := [
  ⟨some 28, .iaddr 8 (.t 24) (.t 26), none⟩,
  ⟨some 29, .load 8 true (.t 28), none⟩,
  ⟨some 13, .alloc [(.int .i64 (.ofNat 0)), (.int .i64 (.ofNat 0)), (.int .i64 (.ofNat 0)), (.int .i64 (.ofNat 0)), (.int .i64 (.ofNat 0)), (.int .i64 (.ofNat 0)), (.int .i64 (.ofNat 0)), (.bool false)], none⟩,
  ⟨none, .store 8 (.t 13) (.t 29), none⟩]
@[simp] def f322r8 : List ROper := [
  ⟨some 30, .mv (.t 10), none⟩,
  ⟨some 31, .faddr 4 (.t 13), none⟩,
  ⟨some 32, .load 1 false (.t 31), none⟩,
  ⟨some 33, .bin .add (.t 30) (.t 32), none⟩,
  ⟨some 10, .mv (.t 33), none⟩]
@[simp] def f322r9 : List ROper := [
  ⟨some 34, .mv (.t 11), none⟩,
  ⟨some 35, .faddr 5 (.t 13), none⟩,
  ⟨some 36, .load 1 false (.t 35), none⟩,
  ⟨some 37, .bin .add (.t 34) (.t 36), none⟩,
  ⟨some 11, .mv (.t 37), none⟩]
@[simp] def f322r10 : List ROper := [
  ⟨some 38, .bin .add (.t 26) (.c (.int .i64 (.ofNat 1))), none⟩,
  ⟨some 26, .mv (.t 38), none⟩]
def f322B0 : RC := (.seq (.region f322r6 [10, 11, 24, 25, 26, 27]) (.seq (.cond (.t 27) .skip (.exit 0)) (.seq (.block 1 (.seq (.region f322r7 [10, 11, 13, 24, 25, 26]) (.seq (.region f322r8 [10, 11, 13, 24, 25, 26]) (.region f322r9 [10, 11, 24, 25, 26])))) (.region f322r10 [10, 11, 24, 25, 26]))))
def f322L0 : RC := .loop [10, 11, 24, 25, 26] f322B0
@[simp] def f322r11 : List ROper := [
  ⟨some 39, .mv (.t 10), none⟩,
  ⟨some 40, .mv (.t 11), none⟩,
  ⟨some 6, .mv (.t 39), none⟩,
  ⟨some 7, .mv (.t 40), none⟩,
  ⟨some 8, .mv (.c (.int .i64 (.ofNat 0))), none⟩]
def f322 : RFunc := ⟨[.t 6, .t 7, .t 8], (.seq (.region f322r0 [0, 1, 2]) (.seq (.seq (.region f322r1 [0, 1, 2, 9]) (.seq (.region f322r2 [0, 1, 2, 9, 19]) (.cond (.t 19) (.seq (.region f322r3 [6, 7, 8]) .ret) .skip))) (.seq (.region f322r4 [0, 1, 2, 10, 11]) (.seq (.seq (.region f322r5 [10, 11, 24, 25, 26]) (.block 0 f322L0)) (.seq (.region f322r11 [6, 7, 8]) .ret))))), true⟩

/-! quire/quireref10.Leaps -/
@[simp] def f325r0 : List ROper := [
  ⟨some 2, .mv (.c (.bool false)), none⟩]
@[simp] def f325r1 : List ROper := [
  ⟨some 3, .mv (.c (.int .i64 (.ofNat 0))), none⟩]
@[simp] def f325r2 : List ROper := [
  ⟨some 4, .mv (.t 3), none⟩,
  ⟨some 5, .mv (.t 0), none⟩,
  ⟨some 6, .len .slice (.t 5), none⟩,
  ⟨some 7, .bin .lss (.t 4) (.t 6), none⟩]
@[simp] def f325r3 : List ROper := [
  ⟨some 10, .mv (.t 0), none⟩,
  ⟨some 11, .mv (.t 3), none⟩,
  ⟨some 12, .iaddr 8 (.t 10) (.t 11), none⟩,
  ⟨some 13, .faddr 0 (.t 12), none⟩,
  ⟨some 14, .load 1 false (.t 13), none⟩,
  ⟨some 15, .bin .eql (.t 14) (.c (.int .i64 (.ofNat 4))), none⟩]
@[simp] def f325r4 : List ROper := [
  ⟨some 2, .mv (.c (.bool true)), none⟩]
@[simp] def f325r5 : List ROper := [
  ⟨some 8, .mv (.t 3), none⟩,
  ⟨some 9, .bin .add (.t 8) (.c (.int .i64 (.ofNat 1))), none⟩,
  ⟨some 3, .mv (.t 9), none⟩]
def f325B0 : RC := (.seq (.seq (.region f325r2 [0, 3, 7]) (.cond (.t 7) .skip (.exit 0))) (.seq (.block 1 (.seq (.region f325r3 [0, 3, 15]) (.cond (.t 15) (.seq (.region f325r4 [2]) .ret) .skip))) (.region f325r5 [0, 3])))
def f325L0 : RC := .loop [0, 3] f325B0
@[simp] def f325r6 : List ROper := [
  ⟨some 2, .mv (.c (.bool false)), none⟩]
def f325 : RFunc := ⟨[.t 2], (.seq (.region f325r0 [0]) (.seq (.seq (.region f325r1 [0, 3]) (.block 0 f325L0)) (.seq (.region f325r6 [2]) .ret))), true⟩

/-! quire/quireref11.Lines -/
@[simp] def f327r0 : List ROper := [
  ⟨some 5, .box 2 (.t 2), none⟩,
  ⟨some 6, .mv (.c (.list 0 0 .no false [])), none⟩]
@[simp] def f327r1 : List ROper := [
  ⟨some 7, .mv (.c (.int .i64 (.ofNat 0))), none⟩]
@[simp] def f327r2 : List ROper := [
  ⟨some 10, .mv (.t 7), none⟩,
  ⟨some 11, .mv (.t 0), none⟩,
  ⟨some 12, .len .slice (.t 11), none⟩,
  ⟨some 13, .bin .lss (.t 10) (.t 12), none⟩,
  ⟨some 14, .mv (.t 13), none⟩,
  ⟨some 15, .mv (.t 0), some (14, true)⟩,
  ⟨some 16, .mv (.t 7), some (14, true)⟩,
  ⟨some 17, .iaddr 8 (.t 15) (.t 16), some (14, true)⟩,
  ⟨some 18, .faddr 0 (.t 17), some (14, true)⟩,
  ⟨some 19, .load 1 false (.t 18), some (14, true)⟩,
  ⟨some 20, .bin .eql (.t 19) (.c (.int .i64 (.ofNat 2))), some (14, true)⟩,
  ⟨some 21, .pick (.t 14) (.t 20) (.c (.bool false)), none⟩]
@[simp] def f327r3 : List ROper := [
  ⟨some 22, .mv (.t 7), none⟩,
  ⟨some 23, .bin .add (.t 22) (.c (.int .i64 (.ofNat 1))), none⟩,
  ⟨some 7, .mv (.t 23), none⟩]
def f327B0 : RC := (.seq (.seq (.region f327r2 [0, 1, 5, 7, 21]) (.cond (.t 21) .skip (.exit 0))) (.block 1 (.region f327r3 [0, 1, 5, 7])))
def f327L0 : RC := .loop [0, 1, 5, 7] f327B0
@[simp] def f327r4 : List ROper := [
  ⟨some 8, .mv (.c (.list 0 0 .no false [])), none⟩]
@[simp] def f327r5 : List ROper := [
  ⟨some 24, .mv (.t 7), none⟩,
  ⟨some 25, .mv (.t 0), none⟩,
  ⟨some 26, .len .slice (.t 25), none⟩,
  ⟨some 27, .bin .lss (.t 24) (.t 26), none⟩]
@[simp] def f327r6 : List ROper := [
  ⟨some 28, .mv (.t 0), none⟩,
  ⟨some 29, .mv (.t 7), none⟩,
  ⟨some 30, .mv (.t 1), none⟩,
  ⟨some 31, .load 2 true (.t 5), none⟩,
  ⟨some 32, .mv (.t 8), none⟩,
  ⟨some 33, .len .slice (.t 32), none⟩,
  ⟨some 34, .call 328 [(.t 30), (.t 31), (.t 33)], none⟩,
  ⟨some 35, .call 341 [(.t 28), (.t 29), (.t 34)], none⟩,
  ⟨some 9, .alloc [(.int .i64 (.ofNat 0)), (.int .i64 (.ofNat 0)), (.bool false), (.bool false), (.int .i64 (.ofNat 0))], none⟩,
  ⟨none, .store 5 (.t 9) (.t 35), none⟩]
@[simp] def f327r7 : List ROper := [
  ⟨some 36, .mv (.t 8), none⟩,
  ⟨some 37, .load 5 true (.t 9), none⟩,
  ⟨some 38, .lit 5 true [(.int .i64 (.ofNat 0)), (.int .i64 (.ofNat 0)), (.bool false), (.bool false), (.int .i64 (.ofNat 0))] 1 [(0, (.t 37))], none⟩,
  ⟨some 39, .append 5 true 32 (.t 36) (.t 38), none⟩,
  ⟨some 8, .mv (.t 39), none⟩]
@[simp] def f327r8 : List ROper := [
  ⟨some 40, .mv (.t 0), none⟩,
  ⟨some 41, .faddr 1 (.t 9), none⟩,
  ⟨some 42, .load 1 false (.t 41), none⟩,
  ⟨some 43, .call 340 [(.t 40), (.t 42)], none⟩,
  ⟨some 7, .mv (.t 43), none⟩]
@[simp] def f327r9 : List ROper := [
  ⟨some 44, .faddr 1 (.t 9), none⟩,
  ⟨some 45, .load 1 false (.t 44), none⟩,
  ⟨some 46, .mv (.t 0), none⟩,
  ⟨some 47, .len .slice (.t 46), none⟩,
  ⟨some 48, .bin .eql (.t 45) (.t 47), none⟩]
@[simp] def f327r10 : List ROper := [
  ⟨some 49, .mv (.t 8), none⟩,
  ⟨some 6, .mv (.t 49), none⟩]
def f327B1 : RC := (.seq (.seq (.region f327r5 [0, 1, 5, 7, 8, 27]) (.cond (.t 27) .skip (.exit 2))) (.block 3 (.seq (.region f327r6 [0, 1, 5, 8, 9]) (.seq (.region f327r7 [0, 1, 5, 8, 9]) (.seq (.region f327r8 [0, 1, 5, 7, 8, 9]) (.seq (.region f327r9 [0, 1, 5, 7, 8, 48]) (.cond (.t 48) (.seq (.region f327r10 [6]) .ret) .skip)))))))
def f327L1 : RC := .loop [0, 1, 5, 7, 8] f327B1
@[simp] def f327r11 : List ROper := [
  ⟨some 50, .mv (.t 8), none⟩,
  ⟨some 51, .len .slice (.t 50), none⟩,
  ⟨some 52, .bin .eql (.t 51) (.c (.int .i64 (.ofNat 0))), none⟩]
@[simp] def f327r12 : List ROper := [
  ⟨some 53, .mv (.t 0), none⟩,
  ⟨some 54, .len .slice (.t 53), none⟩,
  ⟨some 55, .mv (.t 0), none⟩,
  ⟨some 56, .len .slice (.t 55), none⟩,
  ⟨some 57, .build [(.int .i64 (.ofNat 0)), (.int .i64 (.ofNat 0)), (.bool false), (.bool false), (.int .i64 (.ofNat 0))] [(0, 1, (.t 54)), (1, 1, (.t 56))], none⟩,
  ⟨some 58, .lit 5 true [(.int .i64 (.ofNat 0)), (.int .i64 (.ofNat 0)), (.bool false), (.bool false), (.int .i64 (.ofNat 0))] 1 [(0, (.t 57))], none⟩,
  ⟨some 6, .mv (.t 58), none⟩]
@[simp] def f327r13 : List ROper := [
  ⟨some 59, .mv (.t 8), none⟩,
  ⟨some 6, .mv (.t 59), none⟩]
def f327 : RFunc := ⟨[.t 6], (.seq (.region f327r0 [0, 1, 5]) (.seq (.region f327r1 [0, 1, 5, 7]) (.seq (.block 0 f327L0) (.seq (.region f327r4 [0, 1, 5, 7, 8]) (.seq (.block 2 f327L1) (.seq (.seq (.region f327r11 [0, 8, 52]) (.cond (.t 52) (.seq (.region f327r12 [6]) .ret) .skip)) (.seq (.region f327r13 [6]) .ret))))))), true⟩

/-! quire/quireref11.Slot -/
@[simp] def f328r0 : List ROper := [
  ⟨some 4, .box 2 (.t 1), none⟩,
  ⟨some 6, .alloc [(.int .i64 (.ofNat 0)), (.int .i64 (.ofNat 0))], none⟩]
@[simp] def f328r1 : List ROper := [
  ⟨some 7, .mv (.t 2), none⟩,
  ⟨some 8, .bin .lss (.t 7) (.c (.int .i64 (.ofNat 0))), none⟩]
@[simp] def f328r2 : List ROper := [
  ⟨some 9, .build [(.int .i64 (.ofNat 0)), (.int .i64 (.ofNat 0))] [], none⟩,
  ⟨none, .store 2 (.t 6) (.t 9), none⟩]
@[simp] def f328r3 : List ROper := [
  ⟨some 10, .mv (.t 2), none⟩,
  ⟨some 11, .mv (.t 0), none⟩,
  ⟨some 12, .len .slice (.t 11), none⟩,
  ⟨some 13, .bin .lss (.t 10) (.t 12), none⟩]
@[simp] def f328r4 : List ROper := [
  ⟨some 14, .mv (.t 0), none⟩,
  ⟨some 15, .mv (.t 2), none⟩,
  ⟨some 16, .iaddr 2 (.t 14) (.t 15), none⟩,
  ⟨some 17, .load 2 true (.t 16), none⟩,
  ⟨none, .store 2 (.t 6) (.t 17), none⟩]
@[simp] def f328r5 : List ROper := [
  ⟨some 18, .load 2 true (.t 4), none⟩,
  ⟨none, .store 2 (.t 6) (.t 18), none⟩]
def f328 : RFunc := ⟨[.cell 6 2 true], (.seq (.region f328r0 [0, 2, 4, 6]) (.seq (.seq (.region f328r1 [0, 2, 4, 6, 8]) (.cond (.t 8) (.seq (.region f328r2 [6]) .ret) .skip)) (.seq (.seq (.region f328r3 [0, 2, 4, 6, 13]) (.cond (.t 13) (.seq (.region f328r4 [6]) .ret) .skip)) (.seq (.region f328r5 [6]) .ret)))), true⟩

/-! quire/quireref10.Gives -/
@[simp] def f329r0 : List ROper := [
  ⟨some 6, .mv (.c (.int .i64 (.ofNat 0))), none⟩,
  ⟨some 7, .mv (.c (.int .i64 (.ofNat 0))), none⟩]
@[simp] def f329r1 : List ROper := [
  ⟨some 8, .mv (.c (.int .i64 (.ofNat 0))), none⟩,
  ⟨some 9, .mv (.c (.int .i64 (.ofNat 0))), none⟩]
@[simp] def f329r2 : List ROper := [
  ⟨some 11, .mv (.t 1), none⟩,
  ⟨some 10, .mv (.t 11), none⟩]
@[simp] def f329r3 : List ROper := [
  ⟨some 12, .mv (.t 10), none⟩,
  ⟨some 13, .mv (.t 0), none⟩,
  ⟨some 14, .mv (.t 1), none⟩,
  ⟨some 15, .mv (.t 2), none⟩,
  ⟨some 16, .call 342 [(.t 13), (.t 14), (.t 15)], none⟩,
  ⟨some 17, .bin .lss (.t 12) (.t 16), none⟩]
@[simp] def f329r4 : List ROper := [
  ⟨some 20, .mv (.t 8), none⟩,
  ⟨some 21, .mv (.t 0), none⟩,
  ⟨some 22, .mv (.t 10), none⟩,
  ⟨some 23, .iaddr 8 (.t 21) (.t 22), none⟩,
  ⟨some 24, .faddr 4 (.t 23), none⟩,
  ⟨some 25, .load 1 false (.t 24), none⟩,
  ⟨some 26, .bin .add (.t 20) (.t 25), none⟩,
  ⟨some 8, .mv (.t 26), none⟩]
@[simp] def f329r5 : List ROper := [
  ⟨some 27, .mv (.t 9), none⟩,
  ⟨some 28, .mv (.t 0), none⟩,
  ⟨some 29, .mv (.t 10), none⟩,
  ⟨some 30, .iaddr 8 (.t 28) (.t 29), none⟩,
  ⟨some 31, .faddr 5 (.t 30), none⟩,
  ⟨some 32, .load 1 false (.t 31), none⟩,
  ⟨some 33, .bin .add (.t 27) (.t 32), none⟩,
  ⟨some 9, .mv (.t 33), none⟩]
@[simp] def f329r6 : List ROper := [
  ⟨some 18, .mv (.t 10), none⟩,
  ⟨some 19, .bin .add (.t 18) (.c (.int .i64 (.ofNat 1))), none⟩,
  ⟨some 10, .mv (.t 19), none⟩]
def f329B0 : RC := (.seq (.seq (.region f329r3 [0, 1, 2, 8, 9, 10, 17]) (.cond (.t 17) .skip (.exit 0))) (.seq (.block 1 (.seq (.region f329r4 [0, 1, 2, 8, 9, 10]) (.region f329r5 [0, 1, 2, 8, 9, 10]))) (.region f329r6 [0, 1, 2, 8, 9, 10])))
def f329L0 : RC := .loop [0, 1, 2, 8, 9, 10] f329B0
@[simp] def f329r7 : List ROper := [
  ⟨some 34, .mv (.t 8), none⟩,
  ⟨some 35, .mv (.t 9), none⟩,
  ⟨some 6, .mv (.t 34), none⟩,
  ⟨some 7, .mv (.t 35), none⟩]
def f329 : RFunc := ⟨[.t 6, .t 7], (.seq (.region f329r0 [0, 1, 2]) (.seq (.region f329r1 [0, 1, 2, 8, 9]) (.seq (.seq (.region f329r2 [0, 1, 2, 8, 9, 10]) (.block 0 f329L0)) (.seq (.region f329r7 [6, 7]) .ret)))), true⟩

/-! quire/quireref11.Check -/
@[simp] def f333r0 : List ROper := [
  ⟨some 3, .box 2 (.t 1), none⟩,
  ⟨some 4, .mv (.c (.int .i64 (.ofNat 0))), none⟩]
@[simp] def f333r1 : List ROper := [
  ⟨some 6, .mv (.t 0), none⟩,
  ⟨some 7, .len .slice (.t 6), none⟩,
  ⟨some 8, .bin .gtr (.t 7) (.c (.int .i64 (.ofNat 256))), none⟩]
@[simp] def f333r2 : List ROper := [
  ⟨some 4, .mv (.c (.int .i64 (.ofNat 3))), none⟩]
@[simp] def f333r3 : List ROper := [
  ⟨some 5, .mv (.c (.int .i64 (.ofNat 0))), none⟩]
@[simp] def f333r4 : List ROper := [
  ⟨some 9, .mv (.t 5), none⟩,
  ⟨some 10, .mv (.t 0), none⟩,
  ⟨some 11, .len .slice (.t 10), none⟩,
  ⟨some 12, .bin .lss (.t 9) (.t 11), none⟩]
@[simp] def f333r5 : List ROper := [
  ⟨some 15, .mv (.t 0), none⟩,
  ⟨some 16, .mv (.t 5), none⟩,
  ⟨some 17, .iaddr 2 (.t 15) (.t 16), none⟩,
  ⟨some 18, .load 2 true (.t 17), none⟩,
  ⟨some 19, .call 347 [(.t 18)], none⟩,
  ⟨some 20, .un .not (.t 19), none⟩]
@[simp] def f333r6 : List ROper := [
  ⟨some 4, .mv (.c (.int .i64 (.ofNat 2))), none⟩]
@[simp] def f333r7 : List ROper := [
  ⟨some 13, .mv (.t 5), none⟩,
  ⟨some 14, .bin .add (.t 13) (.c (.int .i64 (.ofNat 1))), none⟩,
  ⟨some 5, .mv (.t 14), none⟩]
def f333B0 : RC := (.seq (.seq (.region f333r4 [0, 3, 5, 12]) (.cond (.t 12) .skip (.exit 0))) (.seq (.block 1 (.seq (.region f333r5 [0, 3, 5, 20]) (.cond (.t 20) (.seq (.region f333r6 [4]) .ret) .skip))) (.region f333r7 [0, 3, 5])))
def f333L0 : RC := .loop [0, 3, 5] f333B0
@[simp] def f333r8 : List ROper := [
  ⟨some 21, .load 2 true (.t 3), none⟩,
  ⟨some 22, .call 347 [(.t 21)], none⟩,
  ⟨some 23, .un .not (.t 22), none⟩]
@[simp] def f333r9 : List ROper := [
  ⟨some 4, .mv (.c (.int .i64 (.ofNat 2))), none⟩]
@[simp] def f333r10 : List ROper := [
  ⟨some 4, .mv (.c (.int .i64 (.ofNat 0))), none⟩]
def f333 : RFunc := ⟨[.t 4], (.seq (.region f333r0 [0, 3]) (.seq (.seq (.region f333r1 [0, 3, 8]) (.cond (.t 8) (.seq (.region f333r2 [4]) .ret) .skip)) (.seq (.seq (.region f333r3 [0, 3, 5]) (.block 0 f333L0)) (.seq (.seq (.region f333r8 [23]) (.cond (.t 23) (.seq (.region f333r9 [4]) .ret) .skip)) (.seq (.region f333r10 [4]) .ret))))), true⟩

/-! quire/quireref11.Line -/
@[simp] def f339r0 : List ROper := [
  ⟨some 8, .alloc [(.int .i64 (.ofNat 0)), (.int .i64 (.ofNat 0)), (.bool false), (.bool false), (.int .i64 (.ofNat 0))], none⟩]
@[simp] def f339r1 : List ROper := [
  ⟨some 10, .mv (.t 1), none⟩,
  ⟨some 11, .mv (.t 2), none⟩,
  ⟨some 12, .mv (.t 0), none⟩,
  ⟨some 13, .mv (.t 1), none⟩,
  ⟨some 14, .mv (.t 2), none⟩,
  ⟨some 15, .mv (.t 3), none⟩,
  ⟨some 16, .call 352 [(.t 12), (.t 13), (.t 14), (.t 15)], none⟩,
  ⟨some 17, .build [(.int .i64 (.ofNat 0)), (.int .i64 (.ofNat 0)), (.bool false), (.bool false), (.int .i64 (.ofNat 0))] [(0, 1, (.t 10)), (1, 1, (.t 11)), (4, 1, (.t 16))], none⟩,
  ⟨some 9, .alloc [(.int .i64 (.ofNat 0)), (.int .i64 (.ofNat 0)), (.bool false), (.bool false), (.int .i64 (.ofNat 0))], none⟩,
  ⟨none, .store 5 (.t 9) (.t 17), none⟩]
@[simp] def f339r2 : List ROper := [
  ⟨some 18, .mv (.t 2), none⟩,
  ⟨some 19, .mv (.t 0), none⟩,
  ⟨some 20, .len .slice (.t 19), none⟩,
  ⟨some 21, .bin .lss (.t 18) (.t 20), none⟩,
  ⟨some 22, .mv (.t 21), none⟩,
  ⟨some 23, .mv (.t 0), some (22, true)⟩,
  ⟨some 24, .mv (.t 2), some (22, true)⟩,
  ⟨some 25, .iaddr 8 (.t 23) (.t 24), some (22, true)⟩,
  ⟨some 26, .faddr 0 (.t 25), some (22, true)⟩,
  ⟨some 27, .load 1 false (.t 26), some (22, true)⟩,
  ⟨some 28, .bin .eql (.t 27) (.c (.int .i64 (.ofNat 3))), some (22, true)⟩,
  ⟨some 29, .pick (.t 22) (.t 28) (.c (.bool false)), none⟩,
  ⟨some 30, .mv (.t 29), none⟩,
  ⟨some 31, .mv (.t 0), some (30, true)⟩,
  ⟨some 32, .mv (.t 2), some (30, true)⟩,
  ⟨some 33, .iaddr 8 (.t 31) (.t 32), some (30, true)⟩,
  ⟨some 34, .faddr 7 (.t 33), some (30, true)⟩,
  ⟨some 35, .load 1 false (.t 34), some (30, true)⟩,
  ⟨some 36, .pick (.t 30) (.t 35) (.c (.bool false)), none⟩,
  ⟨some 37, .faddr 3 (.t 9), none⟩,
  ⟨none, .store 1 (.t 37) (.t 36), none⟩]
@[simp] def f339r3 : List ROper := [
  ⟨some 38, .load 5 true (.t 9), none⟩,
  ⟨none, .store 5 (.t 8) (.t 38), none⟩]
def f339 : RFunc := ⟨[.cell 8 5 true], (.seq (.region f339r0 [0, 1, 2, 3, 8]) (.seq (.region f339r1 [0, 2, 8, 9]) (.seq (.region f339r2 [8, 9]) (.seq (.region f339r3 [8]) .ret)))), true⟩

/-! quire/quireref10.Begin -/
@[simp] def f340r0 : List ROper := [
  ⟨some 4, .mv (.c (.int .i64 (.ofNat 0))), none⟩]
@[simp] def f340r1 : List ROper := [
  ⟨some 5, .mv (.t 1), none⟩,
  ⟨some 6, .mv (.t 0), none⟩,
  ⟨some 7, .len .slice (.t 6), none⟩,
  ⟨some 8, .bin .lss (.t 5) (.t 7), none⟩,
  ⟨some 9, .mv (.t 8), none⟩,
  ⟨some 10, .mv (.t 0), some (9, true)⟩,
  ⟨some 11, .mv (.t 1), some (9, true)⟩,
  ⟨some 12, .iaddr 8 (.t 10) (.t 11), some (9, true)⟩,
  ⟨some 13, .faddr 0 (.t 12), some (9, true)⟩,
  ⟨some 14, .load 1 false (.t 13), some (9, true)⟩,
  ⟨some 15, .bin .eql (.t 14) (.c (.int .i64 (.ofNat 3))), some (9, true)⟩,
  ⟨some 16, .pick (.t 9) (.t 15) (.c (.bool false)), none⟩]
@[simp] def f340r2 : List ROper := [
  ⟨some 17, .mv (.t 1), none⟩,
  ⟨some 18, .bin .add (.t 17) (.c (.int .i64 (.ofNat 1))), none⟩,
  ⟨some 1, .mv (.t 18), none⟩]
@[simp] def f340r3 : List ROper := [
  ⟨some 19, .mv (.t 1), none⟩,
  ⟨some 20, .mv (.t 0), none⟩,
  ⟨some 21, .len .slice (.t 20), none⟩,
  ⟨some 22, .bin .lss (.t 19) (.t 21), none⟩,
  ⟨some 23, .mv (.t 22), none⟩,
  ⟨some 24, .mv (.t 0), some (23, true)⟩,
  ⟨some 25, .mv (.t 1), some (23, true)⟩,
  ⟨some 26, .iaddr 8 (.t 24) (.t 25), some (23, true)⟩,
  ⟨some 27, .faddr 0 (.t 26), some (23, true)⟩,
  ⟨some 28, .load 1 false (.t 27), some (23, true)⟩,
  ⟨some 29, .bin .eql (.t 28) (.c (.int .i64 (.ofNat 2))), some (23, true)⟩,
  ⟨some 30, .pick (.t 23) (.t 29) (.c (.bool false)), none⟩]
@[simp] def f340r4 : List ROper := [
  ⟨some 31, .mv (.t 1), none⟩,
  ⟨some 32, .bin .add (.t 31) (.c (.int .i64 (.ofNat 1))), none⟩,
  ⟨some 1, .mv (.t 32), none⟩]
def f340B0 : RC := (.seq (.seq (.region f340r3 [0, 1, 30]) (.cond (.t 30) .skip (.exit 0))) (.block 1 (.region f340r4 [0, 1])))
def f340L0 : RC := .loop [0, 1] f340B0
@[simp] def f340r5 : List ROper := [
  ⟨some 33, .mv (.t 1), none⟩,
  ⟨some 4, .mv (.t 33), none⟩]
def f340 : RFunc := ⟨[.t 4], (.seq (.region f340r0 [0, 1]) (.seq (.seq (.region f340r1 [0, 1, 16]) (.cond (.t 16) (.region f340r2 [0, 1]) .skip)) (.seq (.block 0 f340L0) (.seq (.region f340r5 [4]) .ret)))), true⟩

/-! quire/quireref11.one -/
@[simp] def f341r0 : List ROper := [
  ⟨some 5, .box 2 (.t 2), none⟩,
  ⟨some 6, .alloc [(.int .i64 (.ofNat 0)), (.int .i64 (.ofNat 0)), (.bool false), (.bool false), (.int .i64 (.ofNat 0))], none⟩]
@[simp] def f341r1 : List ROper := [
  ⟨some 7, .mv (.c (.bool false)), none⟩]
@[simp] def f341r2 : List ROper := [
  ⟨some 8, .alloc [(.int .i64 (.ofNat 0)), (.int .i64 (.ofNat 0)), (.bool false), (.bool false), (.int .i64 (.ofNat 0))], none⟩]
@[simp] def f341r3 : List ROper := [
  ⟨some 11, .mv (.t 1), none⟩,
  ⟨some 12, .bin .add (.t 11) (.c (.int .i64 (.ofNat 1))), none⟩,
  ⟨some 9, .mv (.t 12), none⟩]
@[simp] def f341r4 : List ROper := [
  ⟨some 13, .mv (.t 9), none⟩,
  ⟨some 14, .mv (.t 0), none⟩,
  ⟨some 15, .len .slice (.t 14), none⟩,
  ⟨some 16, .bin .leq (.t 13) (.t 15), none⟩]
@[simp] def f341r5 : List ROper := [
  ⟨some 19, .mv (.t 0), none⟩,
  ⟨some 20, .mv (.t 9), none⟩,
  ⟨some 21, .call 353 [(.t 19), (.t 20)], none⟩,
  ⟨some 22, .un .not (.t 21), none⟩]
@[simp] def f341r6 : List ROper := [
  ⟨some 23, .mv (.t 0), none⟩,
  ⟨some 24, .mv (.t 1), none⟩,
  ⟨some 25, .mv (.t 9), none⟩,
  ⟨some 26, .faddr 0 (.t 5), none⟩,
  ⟨some 27, .load 1 false (.t 26), none⟩,
  ⟨some 28, .call 339 [(.t 23), (.t 24), (.t 25), (.t 27)], none⟩,
  ⟨some 10, .alloc [(.int .i64 (.ofNat 0)), (.int .i64 (.ofNat 0)), (.bool false), (.bool false), (.int .i64 (.ofNat 0))], none⟩,
  ⟨none, .store 5 (.t 10) (.t 28), none⟩]
@[simp] def f341r7 : List ROper := [
  ⟨some 29, .faddr 4 (.t 10), none⟩,
  ⟨some 30, .load 1 false (.t 29), none⟩,
  ⟨some 31, .faddr 1 (.t 5), none⟩,
  ⟨some 32, .load 1 false (.t 31), none⟩,
  ⟨some 33, .bin .gtr (.t 30) (.t 32), none⟩]
@[simp] def f341r8 : List ROper := [
  ⟨some 34, .mv (.t 7), none⟩,
  ⟨some 35, .un .not (.t 34), none⟩]
@[simp] def f341r9 : List ROper := [
  ⟨some 36, .faddr 2 (.t 10), none⟩,
  ⟨none, .store 1 (.t 36) (.c (.bool true)), none⟩]
@[simp] def f341r10 : List ROper := [
  ⟨some 37, .load 5 true (.t 10), none⟩,
  ⟨none, .store 5 (.t 6) (.t 37), none⟩]
@[simp] def f341r11 : List ROper := [
  ⟨some 38, .load 5 true (.t 8), none⟩,
  ⟨none, .store 5 (.t 6) (.t 38), none⟩]
@[simp] def f341r12 : List ROper := [
  ⟨some 7, .mv (.c (.bool true)), none⟩]
@[simp] def f341r13 : List ROper := [
  ⟨some 39, .load 5 true (.t 10), none⟩,
  ⟨none, .store 5 (.t 8) (.t 39), none⟩]
@[simp] def f341r14 : List ROper := [
  ⟨some 17, .mv (.t 9), none⟩,
  ⟨some 18, .bin .add (.t 17) (.c (.int .i64 (.ofNat 1))), none⟩,
  ⟨some 9, .mv (.t 18), none⟩]
def f341B0 : RC := (.seq (.seq (.region f341r4 [0, 1, 5, 6, 7, 8, 9, 16]) (.cond (.t 16) .skip (.exit 0))) (.seq (.block 1 (.seq (.seq (.region f341r5 [0, 1, 5, 6, 7, 8, 9, 22]) (.cond (.t 22) (.exit 1) .skip)) (.seq (.region f341r6 [0, 1, 5, 6, 7, 8, 9, 10]) (.seq (.seq (.region f341r7 [0, 1, 5, 6, 7, 8, 9, 10, 33]) (.cond (.t 33) (.seq (.seq (.region f341r8 [6, 8, 10, 35]) (.cond (.t 35) (.seq (.region f341r9 [6, 10]) (.seq (.region f341r10 [6]) .ret)) .skip)) (.seq (.region f341r11 [6]) .ret)) .skip)) (.seq (.region f341r12 [0, 1, 5, 6, 7, 8, 9, 10]) (.region f341r13 [0, 1, 5, 6, 7, 8, 9])))))) (.region f341r14 [0, 1, 5, 6, 7, 8, 9])))
def f341L0 : RC := .loop [0, 1, 5, 6, 7, 8, 9] f341B0
@[simp] def f341r15 : List ROper := [
  ⟨some 40, .load 5 true (.t 8), none⟩,
  ⟨none, .store 5 (.t 6) (.t 40), none⟩]
def f341 : RFunc := ⟨[.cell 6 5 true], (.seq (.region f341r0 [0, 1, 5, 6]) (.seq (.region f341r1 [0, 1, 5, 6, 7]) (.seq (.region f341r2 [0, 1, 5, 6, 7, 8]) (.seq (.seq (.region f341r3 [0, 1, 5, 6, 7, 8, 9]) (.block 0 f341L0)) (.seq (.region f341r15 [6]) .ret))))), true⟩

/-! quire/quireref10.Trim -/
@[simp] def f342r0 : List ROper := [
  ⟨some 6, .mv (.c (.int .i64 (.ofNat 0))), none⟩]
@[simp] def f342r1 : List ROper := [
  ⟨some 7, .mv (.t 2), none⟩,
  ⟨some 8, .mv (.t 1), none⟩,
  ⟨some 9, .bin .gtr (.t 7) (.t 8), none⟩,
  ⟨some 10, .mv (.t 9), none⟩,
  ⟨some 11, .mv (.t 0), some (10, true)⟩,
  ⟨some 12, .mv (.t 2), some (10, true)⟩,
  ⟨some 13, .bin .sub (.t 12) (.c (.int .i64 (.ofNat 1))), some (10, true)⟩,
  ⟨some 14, .iaddr 8 (.t 11) (.t 13), some (10, true)⟩,
  ⟨some 15, .faddr 0 (.t 14), some (10, true)⟩,
  ⟨some 16, .load 1 false (.t 15), some (10, true)⟩,
  ⟨some 17, .bin .eql (.t 16) (.c (.int .i64 (.ofNat 2))), some (10, true)⟩,
  ⟨some 18, .pick (.t 10) (.t 17) (.c (.bool false)), none⟩]
@[simp] def f342r2 : List ROper := [
  ⟨some 19, .mv (.t 2), none⟩,
  ⟨some 20, .bin .sub (.t 19) (.c (.int .i64 (.ofNat 1))), none⟩,
  ⟨some 2, .mv (.t 20), none⟩]
def f342B0 : RC := (.seq (.seq (.region f342r1 [0, 1, 2, 18]) (.cond (.t 18) .skip (.exit 0))) (.block 1 (.region f342r2 [0, 1, 2])))
def f342L0 : RC := .loop [0, 1, 2] f342B0
@[simp] def f342r3 : List ROper := [
  ⟨some 21, .mv (.t 2), none⟩,
  ⟨some 6, .mv (.t 21), none⟩]
def f342 : RFunc := ⟨[.t 6], (.seq (.region f342r0 [0, 1, 2]) (.seq (.block 0 f342L0) (.seq (.region f342r3 [6]) .ret))), true⟩

/-! quire/quireref11.slot -/
@[simp] def f347r0 : List ROper := [
  ⟨some 1, .box 2 (.t 0), none⟩,
  ⟨some 2, .mv (.c (.bool false)), none⟩]
@[simp] def f347r1 : List ROper := [
  ⟨some 3, .faddr 0 (.t 1), none⟩,
  ⟨some 4, .load 1 false (.t 3), none⟩,
  ⟨some 5, .bin .geq (.t 4) (.c (.int .i64 (.ofNat 0))), none⟩,
  ⟨some 6, .mv (.t 5), none⟩,
  ⟨some 7, .faddr 0 (.t 1), some (6, true)⟩,
  ⟨some 8, .load 1 false (.t 7), some (6, true)⟩,
  ⟨some 9, .bin .leq (.t 8) (.c (.int .i64 (.ofNat 4095))), some (6, true)⟩,
  ⟨some 10, .pick (.t 6) (.t 9) (.c (.bool false)), none⟩,
  ⟨some 11, .mv (.t 10), none⟩,
  ⟨some 12, .faddr 1 (.t 1), some (11, true)⟩,
  ⟨some 13, .load 1 false (.t 12), some (11, true)⟩,
  ⟨some 14, .bin .geq (.t 13) (.c (.int .i64 (.ofNat 0))), some (11, true)⟩,
  ⟨some 15, .pick (.t 11) (.t 14) (.c (.bool false)), none⟩,
  ⟨some 16, .mv (.t 15), none⟩,
  ⟨some 17, .faddr 1 (.t 1), some (16, true)⟩,
  ⟨some 18, .load 1 false (.t 17), some (16, true)⟩,
  ⟨some 19, .bin .leq (.t 18) (.c (.int .i64 (.ofNat 4095))), some (16, true)⟩,
  ⟨some 20, .pick (.t 16) (.t 19) (.c (.bool false)), none⟩,
  ⟨some 2, .mv (.t 20), none⟩]
def f347 : RFunc := ⟨[.t 2], (.seq (.region f347r0 [1]) (.seq (.region f347r1 [2]) .ret)), true⟩

/-! quire/quireref10.Check -/
@[simp] def f349r0 : List ROper := [
  ⟨some 2, .mv (.c (.int .i64 (.ofNat 0))), none⟩]
@[simp] def f349r1 : List ROper := [
  ⟨some 5, .mv (.t 0), none⟩,
  ⟨some 6, .len .slice (.t 5), none⟩,
  ⟨some 7, .bin .gtr (.t 6) (.c (.int .i64 (.ofNat 8192))), none⟩]
@[simp] def f349r2 : List ROper := [
  ⟨some 2, .mv (.c (.int .i64 (.ofNat 3))), none⟩]
@[simp] def f349r3 : List ROper := [
  ⟨some 3, .mv (.c (.int .i64 (.ofNat 0))), none⟩]
@[simp] def f349r4 : List ROper := [
  ⟨some 8, .mv (.t 3), none⟩,
  ⟨some 9, .mv (.t 0), none⟩,
  ⟨some 10, .len .slice (.t 9), none⟩,
  ⟨some 11, .bin .lss (.t 8) (.t 10), none⟩]
@[simp] def f349r5 : List ROper := [
  ⟨some 14, .mv (.t 0), none⟩,
  ⟨some 15, .mv (.t 3), none⟩,
  ⟨some 16, .iaddr 8 (.t 14) (.t 15), none⟩,
  ⟨some 17, .load 8 true (.t 16), none⟩,
  ⟨some 4, .alloc [(.int .i64 (.ofNat 0)), (.int .i64 (.ofNat 0)), (.int .i64 (.ofNat 0)), (.int .i64 (.ofNat 0)), (.int .i64 (.ofNat 0)), (.int .i64 (.ofNat 0)), (.int .i64 (.ofNat 0)), (.bool false)], none⟩,
  ⟨none, .store 8 (.t 4) (.t 17), none⟩]
@[simp] def f349r6 : List ROper := [
  ⟨some 18, .faddr 0 (.t 4), none⟩,
  ⟨some 19, .load 1 false (.t 18), none⟩,
  ⟨some 20, .bin .lss (.t 19) (.c (.int .i64 (.ofNat 1))), none⟩,
  ⟨some 21, .mv (.t 20), none⟩,
  ⟨some 22, .faddr 0 (.t 4), some (21, false)⟩,
  ⟨some 23, .load 1 false (.t 22), some (21, false)⟩,
  ⟨some 24, .bin .gtr (.t 23) (.c (.int .i64 (.ofNat 4))), some (21, false)⟩,
  ⟨some 25, .pick (.t 21) (.c (.bool true)) (.t 24), none⟩,
  ⟨some 26, .mv (.t 25), none⟩,
  ⟨some 27, .faddr 1 (.t 4), some (26, false)⟩,
  ⟨some 28, .load 1 false (.t 27), some (26, false)⟩,
  ⟨some 29, .bin .lss (.t 28) (.c (.int .i64 (.ofNat 0))), some (26, false)⟩,
  ⟨some 30, .pick (.t 26) (.c (.bool true)) (.t 29), none⟩,
  ⟨some 31, .mv (.t 30), none⟩,
  ⟨some 32, .faddr 2 (.t 4), some (31, false)⟩,
  ⟨some 33, .load 1 false (.t 32), some (31, false)⟩,
  ⟨some 34, .faddr 1 (.t 4), some (31, false)⟩,
  ⟨some 35, .load 1 false (.t 34), some (31, false)⟩,
  ⟨some 36, .bin .lss (.t 33) (.t 35), some (31, false)⟩,
  ⟨some 37, .pick (.t 31) (.c (.bool true)) (.t 36), none⟩,
  ⟨some 38, .mv (.t 37), none⟩,
  ⟨some 39, .faddr 3 (.t 4), some (38, false)⟩,
  ⟨some 40, .load 1 false (.t 39), some (38, false)⟩,
  ⟨some 41, .bin .lss (.t 40) (.c (.int .i64 (.ofNat 0))), some (38, false)⟩,
  ⟨some 42, .pick (.t 38) (.c (.bool true)) (.t 41), none⟩,
  ⟨some 43, .mv (.t 42), none⟩,
  ⟨some 44, .faddr 3 (.t 4), some (43, false)⟩,
  ⟨some 45, .load 1 false (.t 44), some (43, false)⟩,
  ⟨some 46, .bin .gtr (.t 45) (.c (.int .i64 (.ofNat 2097152))), some (43, false)⟩,
  ⟨some 47, .pick (.t 43) (.c (.bool true)) (.t 46), none⟩,
  ⟨some 48, .mv (.t 47), none⟩,
  ⟨some 49, .faddr 4 (.t 4), some (48, false)⟩,
  ⟨some 50, .load 1 false (.t 49), some (48, false)⟩,
  ⟨some 51, .call 354 [(.t 50)], some (48, false)⟩,
  ⟨some 52, .un .not (.t 51), some (48, false)⟩,
  ⟨some 53, .pick (.t 48) (.c (.bool true)) (.t 52), none⟩,
  ⟨some 54, .mv (.t 53), none⟩,
  ⟨some 55, .faddr 5 (.t 4), some (54, false)⟩,
  ⟨some 56, .load 1 false (.t 55), some (54, false)⟩,
  ⟨some 57, .call 354 [(.t 56)], some (54, false)⟩,
  ⟨some 58, .un .not (.t 57), some (54, false)⟩,
  ⟨some 59, .pick (.t 54) (.c (.bool true)) (.t 58), none⟩,
  ⟨some 60, .mv (.t 59), none⟩,
  ⟨some 61, .faddr 6 (.t 4), some (60, false)⟩,
  ⟨some 62, .load 1 false (.t 61), some (60, false)⟩,
  ⟨some 63, .call 354 [(.t 62)], some (60, false)⟩,
  ⟨some 64, .un .not (.t 63), some (60, false)⟩,
  ⟨some 65, .pick (.t 60) (.c (.bool true)) (.t 64), none⟩]
@[simp] def f349r7 : List ROper := [
  ⟨some 2, .mv (.c (.int .i64 (.ofNat 2))), none⟩]
@[simp] def f349r8 : List ROper := [
  ⟨some 66, .faddr 0 (.t 4), none⟩,
  ⟨some 67, .load 1 false (.t 66), none⟩,
  ⟨some 68, .bin .neq (.t 67) (.c (.int .i64 (.ofNat 3))), none⟩,
  ⟨some 69, .mv (.t 68), none⟩,
  ⟨some 70, .faddr 7 (.t 4), some (69, true)⟩,
  ⟨some 71, .load 1 false (.t 70), some (69, true)⟩,
  ⟨some 72, .mv (.t 71), some (69, true)⟩,
  ⟨some 73, .faddr 6 (.t 4), some (72, false)⟩,
  ⟨some 74, .load 1 false (.t 73), some (72, false)⟩,
  ⟨some 75, .bin .neq (.t 74) (.c (.int .i64 (.ofNat 0))), some (72, false)⟩,
  ⟨some 76, .pick (.t 72) (.c (.bool true)) (.t 75), some (69, true)⟩,
  ⟨some 77, .pick (.t 69) (.t 76) (.c (.bool false)), none⟩,
  ⟨some 78, .mv (.t 77), none⟩,
  ⟨some 79, .faddr 0 (.t 4), some (78, false)⟩,
  ⟨some 80, .load 1 false (.t 79), some (78, false)⟩,
  ⟨some 81, .bin .neq (.t 80) (.c (.int .i64 (.ofNat 2))), some (78, false)⟩,
  ⟨some 82, .mv (.t 81), some (78, false)⟩,
  ⟨some 83, .faddr 4 (.t 4), some (82, true)⟩,
  ⟨some 84, .load 1 false (.t 83), some (82, true)⟩,
  ⟨some 85, .bin .neq (.t 84) (.c (.int .i64 (.ofNat 0))), some (82, true)⟩,
  ⟨some 86, .mv (.t 85), some (82, true)⟩,
  ⟨some 87, .faddr 5 (.t 4), some (86, false)⟩,
  ⟨some 88, .load 1 false (.t 87), some (86, false)⟩,
  ⟨some 89, .bin .neq (.t 88) (.c (.int .i64 (.ofNat 0))), some (86, false)⟩,
  ⟨some 90, .pick (.t 86) (.c (.bool true)) (.t 89), some (82, true)⟩,
  ⟨some 91, .pick (.t 82) (.t 90) (.c (.bool false)), some (78, false)⟩,
  ⟨some 92, .pick (.t 78) (.c (.bool true)) (.t 91), none⟩,
  ⟨some 93, .mv (.t 92), none⟩,
  ⟨some 94, .faddr 0 (.t 4), some (93, false)⟩,
  ⟨some 95, .load 1 false (.t 94), some (93, false)⟩,
  ⟨some 96, .bin .eql (.t 95) (.c (.int .i64 (.ofNat 4))), some (93, false)⟩,
  ⟨some 97, .mv (.t 96), some (93, false)⟩,
  ⟨some 98, .faddr 3 (.t 4), some (97, true)⟩,
  ⟨some 99, .load 1 false (.t 98), some (97, true)⟩,
  ⟨some 100, .bin .neq (.t 99) (.c (.int .i64 (.ofNat 0))), some (97, true)⟩,
  ⟨some 101, .pick (.t 97) (.t 100) (.c (.bool false)), some (93, false)⟩,
  ⟨some 102, .pick (.t 93) (.c (.bool true)) (.t 101), none⟩]
@[simp] def f349r9 : List ROper := [
  ⟨some 2, .mv (.c (.int .i64 (.ofNat 2))), none⟩]
@[simp] def f349r10 : List ROper := [
  ⟨some 12, .mv (.t 3), none⟩,
  ⟨some 13, .bin .add (.t 12) (.c (.int .i64 (.ofNat 1))), none⟩,
  ⟨some 3, .mv (.t 13), none⟩]
def f349B0 : RC := (.seq (.seq (.region f349r4 [0, 3, 11]) (.cond (.t 11) .skip (.exit 0))) (.seq (.block 1 (.seq (.region f349r5 [0, 3, 4]) (.seq (.seq (.region f349r6 [0, 3, 4, 65]) (.cond (.t 65) (.seq (.region f349r7 [2]) .ret) .skip)) (.seq (.region f349r8 [0, 3, 102]) (.cond (.t 102) (.seq (.region f349r9 [2]) .ret) .skip))))) (.region f349r10 [0, 3])))
def f349L0 : RC := .loop [0, 3] f349B0
@[simp] def f349r11 : List ROper := [
  ⟨some 2, .mv (.c (.int .i64 (.ofNat 0))), none⟩]
def f349 : RFunc := ⟨[.t 2], (.seq (.region f349r0 [0]) (.seq (.seq (.region f349r1 [0, 7]) (.cond (.t 7) (.seq (.region f349r2 [2]) .ret) .skip)) (.seq (.seq (.region f349r3 [0, 3]) (.block 0 f349L0)) (.seq (.region f349r11 [2]) .ret)))), true⟩

/-! quire/quireref10.Natural -/
@[simp] def f352r0 : List ROper := [
  ⟨some 8, .mv (.c (.int .i64 (.ofNat 0))), none⟩]
@[simp] def f352r1 : List ROper := [
  ⟨some 11, .mv (.t 3), none⟩,
  ⟨some 9, .mv (.t 11), none⟩]
@[simp] def f352r2 : List ROper := [
  ⟨some 12, .mv (.t 1), none⟩,
  ⟨some 10, .mv (.t 12), none⟩]
@[simp] def f352r3 : List ROper := [
  ⟨some 13, .mv (.t 10), none⟩,
  ⟨some 14, .mv (.t 0), none⟩,
  ⟨some 15, .mv (.t 1), none⟩,
  ⟨some 16, .mv (.t 2), none⟩,
  ⟨some 17, .call 342 [(.t 14), (.t 15), (.t 16)], none⟩,
  ⟨some 18, .bin .lss (.t 13) (.t 17), none⟩]
@[simp] def f352r4 : List ROper := [
  ⟨some 21, .mv (.t 0), none⟩,
  ⟨some 22, .mv (.t 10), none⟩,
  ⟨some 23, .iaddr 8 (.t 21) (.t 22), none⟩,
  ⟨some 24, .faddr 0 (.t 23), none⟩,
  ⟨some 25, .load 1 false (.t 24), none⟩]
@[simp] def f352r5 : List ROper := [
  ⟨some 27, .bin .eql (.t 25) (.c (.int .i64 (.ofNat 1))), none⟩,
  ⟨some 26, .mv (.t 27), none⟩]
@[simp] def f352r6 : List ROper := [
  ⟨some 28, .bin .eql (.t 25) (.c (.int .i64 (.ofNat 2))), none⟩,
  ⟨some 26, .mv (.t 28), none⟩]
@[simp] def f352r7 : List ROper := [
  ⟨some 29, .mv (.t 9), none⟩,
  ⟨some 30, .mv (.t 0), none⟩,
  ⟨some 31, .mv (.t 10), none⟩,
  ⟨some 32, .iaddr 8 (.t 30) (.t 31), none⟩,
  ⟨some 33, .faddr 3 (.t 32), none⟩,
  ⟨some 34, .load 1 false (.t 33), none⟩,
  ⟨some 35, .bin .add (.t 29) (.t 34), none⟩,
  ⟨some 9, .mv (.t 35), none⟩]
@[simp] def f352r8 : List ROper := [
  ⟨some 37, .bin .eql (.t 25) (.c (.int .i64 (.ofNat 4))), none⟩,
  ⟨some 36, .mv (.t 37), none⟩]
@[simp] def f352r9 : List ROper := [
  ⟨some 38, .mv (.t 9), none⟩,
  ⟨some 39, .call 241 [(.c (.list 0 0 .no false [])), (.t 38)], none⟩,
  ⟨some 40, .field 1 false 0 (.t 39), none⟩,
  ⟨some 9, .mv (.t 40), none⟩]
@[simp] def f352r10 : List ROper := [
  ⟨some 19, .mv (.t 10), none⟩,
  ⟨some 20, .bin .add (.t 19) (.c (.int .i64 (.ofNat 1))), none⟩,
  ⟨some 10, .mv (.t 20), none⟩]
def f352B0 : RC := (.seq (.seq (.region f352r3 [0, 1, 2, 3, 9, 10, 18]) (.cond (.t 18) .skip (.exit 0))) (.seq (.block 1 (.seq (.region f352r4 [0, 1, 2, 3, 9, 10, 25]) (.block 2 (.seq (.seq (.region f352r5 [0, 1, 2, 3, 9, 10, 25, 26]) (.cond (.t 26) .skip (.region f352r6 [0, 1, 2, 3, 9, 10, 25, 26]))) (.cond (.t 26) (.region f352r7 [0, 1, 2, 3, 9, 10]) (.seq (.region f352r8 [0, 1, 2, 3, 9, 10, 36]) (.cond (.t 36) (.region f352r9 [0, 1, 2, 3, 9, 10]) .skip))))))) (.region f352r10 [0, 1, 2, 3, 9, 10])))
def f352L0 : RC := .loop [0, 1, 2, 3, 9, 10] f352B0
@[simp] def f352r11 : List ROper := [
  ⟨some 41, .mv (.t 2), none⟩,
  ⟨some 42, .mv (.t 0), none⟩,
  ⟨some 43, .len .slice (.t 42), none⟩,
  ⟨some 44, .bin .lss (.t 41) (.t 43), none⟩,
  ⟨some 45, .mv (.t 44), none⟩,
  ⟨some 46, .mv (.t 0), some (45, true)⟩,
  ⟨some 47, .mv (.t 2), some (45, true)⟩,
  ⟨some 48, .iaddr 8 (.t 46) (.t 47), some (45, true)⟩,
  ⟨some 49, .faddr 0 (.t 48), some (45, true)⟩,
  ⟨some 50, .load 1 false (.t 49), some (45, true)⟩,
  ⟨some 51, .bin .eql (.t 50) (.c (.int .i64 (.ofNat 3))), some (45, true)⟩,
  ⟨some 52, .pick (.t 45) (.t 51) (.c (.bool false)), none⟩]
@[simp] def f352r12 : List ROper := [
  ⟨some 53, .mv (.t 9), none⟩,
  ⟨some 54, .mv (.t 0), none⟩,
  ⟨some 55, .mv (.t 2), none⟩,
  ⟨some 56, .iaddr 8 (.t 54) (.t 55), none⟩,
  ⟨some 57, .faddr 3 (.t 56), none⟩,
  ⟨some 58, .load 1 false (.t 57), none⟩,
  ⟨some 59, .bin .add (.t 53) (.t 58), none⟩,
  ⟨some 9, .mv (.t 59), none⟩]
@[simp] def f352r13 : List ROper := [
  ⟨some 60, .mv (.t 9), none⟩,
  ⟨some 61, .mv (.t 3), none⟩,
  ⟨some 62, .bin .sub (.t 60) (.t 61), none⟩,
  ⟨some 8, .mv (.t 62), none⟩]
def f352 : RFunc := ⟨[.t 8], (.seq (.region f352r0 [0, 1, 2, 3]) (.seq (.region f352r1 [0, 1, 2, 3, 9]) (.seq (.seq (.region f352r2 [0, 1, 2, 3, 9, 10]) (.block 0 f352L0)) (.seq (.seq (.region f352r11 [0, 2, 3, 9, 52]) (.cond (.t 52) (.region f352r12 [3, 9]) .skip)) (.seq (.region f352r13 [8]) .ret))))), true⟩

/-! quire/quireref10.Ends -/
@[simp] def f353r0 : List ROper := [
  ⟨some 4, .mv (.c (.bool false)), none⟩]
@[simp] def f353r1 : List ROper := [
  ⟨some 5, .mv (.t 1), none⟩,
  ⟨some 6, .mv (.t 0), none⟩,
  ⟨some 7, .len .slice (.t 6), none⟩,
  ⟨some 8, .bin .eql (.t 5) (.t 7), none⟩,
  ⟨some 9, .mv (.t 8), none⟩,
  ⟨some 10, .mv (.t 0), some (9, false)⟩,
  ⟨some 11, .mv (.t 1), some (9, false)⟩,
  ⟨some 12, .iaddr 8 (.t 10) (.t 11), some (9, false)⟩,
  ⟨some 13, .faddr 0 (.t 12), some (9, false)⟩,
  ⟨some 14, .load 1 false (.t 13), some (9, false)⟩,
  ⟨some 15, .bin .eql (.t 14) (.c (.int .i64 (.ofNat 3))), some (9, false)⟩,
  ⟨some 16, .pick (.t 9) (.c (.bool true)) (.t 15), none⟩]
@[simp] def f353r2 : List ROper := [
  ⟨some 4, .mv (.c (.bool true)), none⟩]
@[simp] def f353r3 : List ROper := [
  ⟨some 17, .mv (.t 0), none⟩,
  ⟨some 18, .mv (.t 1), none⟩,
  ⟨some 19, .iaddr 8 (.t 17) (.t 18), none⟩,
  ⟨some 20, .faddr 0 (.t 19), none⟩,
  ⟨some 21, .load 1 false (.t 20), none⟩,
  ⟨some 22, .bin .eql (.t 21) (.c (.int .i64 (.ofNat 2))), none⟩,
  ⟨some 23, .mv (.t 22), none⟩,
  ⟨some 24, .mv (.t 1), some (23, true)⟩,
  ⟨some 25, .bin .gtr (.t 24) (.c (.int .i64 (.ofNat 0))), some (23, true)⟩,
  ⟨some 26, .pick (.t 23) (.t 25) (.c (.bool false)), none⟩,
  ⟨some 27, .mv (.t 26), none⟩,
  ⟨some 28, .mv (.t 0), some (27, true)⟩,
  ⟨some 29, .mv (.t 1), some (27, true)⟩,
  ⟨some 30, .bin .sub (.t 29) (.c (.int .i64 (.ofNat 1))), some (27, true)⟩,
  ⟨some 31, .iaddr 8 (.t 28) (.t 30), some (27, true)⟩,
  ⟨some 32, .faddr 0 (.t 31), some (27, true)⟩,
  ⟨some 33, .load 1 false (.t 32), some (27, true)⟩,
  ⟨some 34, .bin .neq (.t 33) (.c (.int .i64 (.ofNat 2))), some (27, true)⟩,
  ⟨some 35, .pick (.t 27) (.t 34) (.c (.bool false)), none⟩,
  ⟨some 4, .mv (.t 35), none⟩]
def f353 : RFunc := ⟨[.t 4], (.seq (.region f353r0 [0, 1]) (.seq (.seq (.region f353r1 [0, 1, 16]) (.cond (.t 16) (.seq (.region f353r2 [4]) .ret) .skip)) (.seq (.region f353r3 [4]) .ret))), true⟩

/-! quire/quireref10.fits -/
@[simp] def f354r0 : List ROper := [
  ⟨some 2, .mv (.c (.bool false)), none⟩]
@[simp] def f354r1 : List ROper := [
  ⟨some 3, .mv (.t 0), none⟩,
  ⟨some 4, .bin .geq (.t 3) (.c (.int .i64 (.ofNat 0))), none⟩,
  ⟨some 5, .mv (.t 4), none⟩,
  ⟨some 6, .mv (.t 0), some (5, true)⟩,
  ⟨some 7, .bin .leq (.t 6) (.c (.int .i64 (.ofNat 4095))), some (5, true)⟩,
  ⟨some 8, .pick (.t 5) (.t 7) (.c (.bool false)), none⟩,
  ⟨some 2, .mv (.t 8), none⟩]
def f354 : RFunc := ⟨[.t 2], (.seq (.region f354r0 [0]) (.seq (.region f354r1 [2]) .ret)), true⟩

/-! quire/quirelaw10.ItemLines -/
@[simp] def f626r0 : List ROper := [
  ⟨some 8, .mv (.c (.bool false)), none⟩]
@[simp] def f626r1 : List ROper := [
  ⟨some 25, .mv (.t 0), none⟩,
  ⟨some 26, .len .slice (.t 25), none⟩,
  ⟨some 27, .bin .gtr (.t 26) (.c (.int .i64 (.ofNat 9000))), none⟩]
@[simp] def f626r2 : List ROper := [
  ⟨some 8, .mv (.c (.bool true)), none⟩]
@[simp] def f626r3 : List ROper := [
  ⟨some 28, .mv (.t 0), none⟩,
  ⟨some 29, .call 628 [(.t 28)], none⟩,
  ⟨some 9, .mv (.t 29), none⟩]
@[simp] def f626r4 : List ROper := [
  ⟨some 31, .mv (.t 9), none⟩,
  ⟨some 32, .mv (.t 1), none⟩,
  ⟨some 33, .call 101 [(.t 31), (.t 32)], none⟩,
  ⟨some 30, .mv (.t 33), none⟩,
  ⟨some 34, .extract (.t 30) 0, none⟩,
  ⟨some 35, .extract (.t 30) 1, none⟩,
  ⟨some 10, .mv (.t 34), none⟩,
  ⟨some 11, .mv (.t 35), none⟩]
@[simp] def f626r5 : List ROper := [
  ⟨some 37, .mv (.t 0), none⟩,
  ⟨some 38, .mv (.t 1), none⟩,
  ⟨some 39, .call 629 [(.t 37), (.t 38)], none⟩,
  ⟨some 36, .mv (.t 39), none⟩,
  ⟨some 40, .extract (.t 36) 0, none⟩,
  ⟨some 41, .extract (.t 36) 1, none⟩,
  ⟨some 12, .mv (.t 40), none⟩,
  ⟨some 13, .mv (.t 41), none⟩]
@[simp] def f626r6 : List ROper := [
  ⟨some 43, .mv (.t 9), none⟩,
  ⟨some 44, .mv (.t 1), none⟩,
  ⟨some 45, .mv (.t 2), none⟩,
  ⟨some 46, .mv (.t 3), none⟩,
  ⟨some 47, .call 110 [(.t 43), (.t 44), (.t 45), (.t 46)], none⟩,
  ⟨some 42, .mv (.t 47), none⟩,
  ⟨some 48, .extract (.t 42) 0, none⟩,
  ⟨some 49, .extract (.t 42) 1, none⟩,
  ⟨some 14, .mv (.t 48), none⟩,
  ⟨some 15, .mv (.t 49), none⟩]
@[simp] def f626r7 : List ROper := [
  ⟨some 51, .mv (.t 0), none⟩,
  ⟨some 52, .mv (.t 1), none⟩,
  ⟨some 53, .mv (.t 2), none⟩,
  ⟨some 54, .mv (.t 3), none⟩,
  ⟨some 55, .call 630 [(.t 51), (.t 52), (.t 53), (.t 54)], none⟩,
  ⟨some 50, .mv (.t 55), none⟩,
  ⟨some 56, .extract (.t 50) 0, none⟩,
  ⟨some 57, .extract (.t 50) 1, none⟩,
  ⟨some 16, .mv (.t 56), none⟩,
  ⟨some 17, .mv (.t 57), none⟩]
@[simp] def f626r8 : List ROper := [
  ⟨some 59, .mv (.t 9), none⟩,
  ⟨some 60, .mv (.t 1), none⟩,
  ⟨some 61, .mv (.t 2), none⟩,
  ⟨some 62, .call 322 [(.t 59), (.t 60), (.t 61)], none⟩,
  ⟨some 58, .mv (.t 62), none⟩,
  ⟨some 63, .extract (.t 58) 0, none⟩,
  ⟨some 64, .extract (.t 58) 1, none⟩,
  ⟨some 65, .extract (.t 58) 2, none⟩,
  ⟨some 18, .mv (.t 63), none⟩,
  ⟨some 19, .mv (.t 64), none⟩,
  ⟨some 20, .mv (.t 65), none⟩]
@[simp] def f626r9 : List ROper := [
  ⟨some 67, .mv (.t 0), none⟩,
  ⟨some 68, .mv (.t 1), none⟩,
  ⟨some 69, .mv (.t 2), none⟩,
  ⟨some 70, .call 631 [(.t 67), (.t 68), (.t 69)], none⟩,
  ⟨some 66, .mv (.t 70), none⟩,
  ⟨some 71, .extract (.t 66) 0, none⟩,
  ⟨some 72, .extract (.t 66) 1, none⟩,
  ⟨some 73, .extract (.t 66) 2, none⟩,
  ⟨some 21, .mv (.t 71), none⟩,
  ⟨some 22, .mv (.t 72), none⟩,
  ⟨some 23, .mv (.t 73), none⟩]
@[simp] def f626r10 : List ROper := [
  ⟨some 74, .mv (.t 10), none⟩,
  ⟨some 75, .mv (.t 12), none⟩,
  ⟨some 76, .bin .eql (.t 74) (.t 75), none⟩,
  ⟨some 77, .mv (.t 76), none⟩,
  ⟨some 78, .mv (.t 11), some (77, true)⟩,
  ⟨some 79, .mv (.t 13), some (77, true)⟩,
  ⟨some 80, .bin .eql (.t 78) (.t 79), some (77, true)⟩,
  ⟨some 81, .pick (.t 77) (.t 80) (.c (.bool false)), none⟩,
  ⟨some 82, .mv (.t 81), none⟩,
  ⟨some 83, .mv (.t 14), some (82, true)⟩,
  ⟨some 84, .mv (.t 16), some (82, true)⟩,
  ⟨some 85, .bin .eql (.t 83) (.t 84), some (82, true)⟩,
  ⟨some 86, .pick (.t 82) (.t 85) (.c (.bool false)), none⟩,
  ⟨some 87, .mv (.t 86), none⟩,
  ⟨some 88, .mv (.t 15), some (87, true)⟩,
  ⟨some 89, .mv (.t 17), some (87, true)⟩,
  ⟨some 90, .bin .eql (.t 88) (.t 89), some (87, true)⟩,
  ⟨some 91, .pick (.t 87) (.t 90) (.c (.bool false)), none⟩,
  ⟨some 92, .mv (.t 91), none⟩,
  ⟨some 93, .mv (.t 18), some (92, true)⟩,
  ⟨some 94, .mv (.t 21), some (92, true)⟩,
  ⟨some 95, .bin .eql (.t 93) (.t 94), some (92, true)⟩,
  ⟨some 96, .pick (.t 92) (.t 95) (.c (.bool false)), none⟩,
  ⟨some 97, .mv (.t 96), none⟩,
  ⟨some 98, .mv (.t 19), some (97, true)⟩,
  ⟨some 99, .mv (.t 22), some (97, true)⟩,
  ⟨some 100, .bin .eql (.t 98) (.t 99), some (97, true)⟩,
  ⟨some 101, .pick (.t 97) (.t 100) (.c (.bool false)), none⟩,
  ⟨some 102, .mv (.t 101), none⟩,
  ⟨some 103, .mv (.t 20), some (102, true)⟩,
  ⟨some 104, .mv (.t 23), some (102, true)⟩,
  ⟨some 105, .bin .eql (.t 103) (.t 104), some (102, true)⟩,
  ⟨some 106, .pick (.t 102) (.t 105) (.c (.bool false)), none⟩,
  ⟨some 24, .mv (.t 106), none⟩]
@[simp] def f626r11 : List ROper := [
  ⟨some 107, .mv (.t 24), none⟩,
  ⟨some 108, .mv (.t 107), none⟩,
  ⟨some 109, .mv (.t 9), some (108, true)⟩,
  ⟨some 110, .call 109 [(.t 109)], some (108, true)⟩,
  ⟨some 111, .mv (.t 0), some (108, true)⟩,
  ⟨some 112, .call 349 [(.t 111)], some (108, true)⟩,
  ⟨some 113, .bin .eql (.t 110) (.t 112), some (108, true)⟩,
  ⟨some 114, .pick (.t 108) (.t 113) (.c (.bool false)), none⟩,
  ⟨some 115, .mv (.t 114), none⟩,
  ⟨some 116, .mv (.t 9), some (115, true)⟩,
  ⟨some 117, .mv (.t 2), some (115, true)⟩,
  ⟨some 118, .call 103 [(.t 116), (.t 117)], some (115, true)⟩,
  ⟨some 119, .mv (.t 0), some (115, true)⟩,
  ⟨some 120, .mv (.t 2), some (115, true)⟩,
  ⟨some 121, .call 632 [(.t 119), (.t 120)], some (115, true)⟩,
  ⟨some 122, .eq .bool false (.t 118) (.t 121), some (115, true)⟩,
  ⟨some 123, .pick (.t 115) (.t 122) (.c (.bool false)), none⟩,
  ⟨some 124, .mv (.t 123), none⟩,
  ⟨some 125, .mv (.t 9), some (124, true)⟩,
  ⟨some 126, .call 108 [(.t 125)], some (124, true)⟩,
  ⟨some 127, .mv (.t 0), some (124, true)⟩,
  ⟨some 128, .call 325 [(.t 127)], some (124, true)⟩,
  ⟨some 129, .eq .bool false (.t 126) (.t 128), some (124, true)⟩,
  ⟨some 130, .pick (.t 124) (.t 129) (.c (.bool false)), none⟩,
  ⟨some 131, .mv (.t 130), none⟩,
  ⟨some 132, .mv (.t 9), some (131, true)⟩,
  ⟨some 133, .mv (.t 0), some (131, true)⟩,
  ⟨some 134, .call 633 [(.t 132), (.t 133)], some (131, true)⟩,
  ⟨some 135, .pick (.t 131) (.t 134) (.c (.bool false)), none⟩,
  ⟨some 136, .mv (.t 135), none⟩,
  ⟨some 137, .call 102 [], some (136, true)⟩,
  ⟨some 138, .pick (.t 136) (.t 137) (.c (.bool false)), none⟩,
  ⟨some 8, .mv (.t 138), none⟩]
def f626 : RFunc := ⟨[.t 8], (.seq (.region f626r0 [0, 1, 2, 3]) (.seq (.seq (.region f626r1 [0, 1, 2, 3, 27]) (.cond (.t 27) (.seq (.region f626r2 [8]) .ret) .skip)) (.seq (.region f626r3 [0, 1, 2, 3, 9]) (.seq (.region f626r4 [0, 1, 2, 3, 9, 10, 11]) (.seq (.region f626r5 [0, 1, 2, 3, 9, 10, 11, 12, 13]) (.seq (.region f626r6 [0, 1, 2, 3, 9, 10, 11, 12, 13, 14, 15]) (.seq (.region f626r7 [0, 1, 2, 9, 10, 11, 12, 13, 14, 15, 16, 17]) (.seq (.region f626r8 [0, 1, 2, 9, 10, 11, 12, 13, 14, 15, 16, 17, 18, 19, 20]) (.seq (.region f626r9 [0, 2, 9, 10, 11, 12, 13, 14, 15, 16, 17, 18, 19, 20, 21, 22, 23]) (.seq (.region f626r10 [0, 2, 9, 24]) (.seq (.region f626r11 [8]) .ret))))))))))), true⟩

/-! quire/quirelaw11.FirstTells -/
@[simp] def f627r0 : List ROper := [
  ⟨some 6, .box 2 (.t 2), none⟩,
  ⟨some 8, .mv (.c (.bool false)), none⟩]
@[simp] def f627r1 : List ROper := [
  ⟨some 15, .mv (.t 0), none⟩,
  ⟨some 16, .len .slice (.t 15), none⟩,
  ⟨some 17, .bin .gtr (.t 16) (.c (.int .i64 (.ofNat 400))), none⟩,
  ⟨some 18, .mv (.t 17), none⟩,
  ⟨some 19, .mv (.t 0), some (18, true)⟩,
  ⟨some 20, .len .slice (.t 19), some (18, true)⟩,
  ⟨some 21, .bin .leq (.t 20) (.c (.int .i64 (.ofNat 8192))), some (18, true)⟩,
  ⟨some 22, .pick (.t 18) (.t 21) (.c (.bool false)), none⟩,
  ⟨some 23, .mv (.t 22), none⟩,
  ⟨some 24, .mv (.t 0), some (23, false)⟩,
  ⟨some 25, .len .slice (.t 24), some (23, false)⟩,
  ⟨some 26, .bin .gtr (.t 25) (.c (.int .i64 (.ofNat 9000))), some (23, false)⟩,
  ⟨some 27, .pick (.t 23) (.c (.bool true)) (.t 26), none⟩,
  ⟨some 28, .mv (.t 27), none⟩,
  ⟨some 29, .mv (.t 1), some (28, false)⟩,
  ⟨some 30, .len .slice (.t 29), some (28, false)⟩,
  ⟨some 31, .bin .gtr (.t 30) (.c (.int .i64 (.ofNat 300))), some (28, false)⟩,
  ⟨some 32, .pick (.t 28) (.c (.bool true)) (.t 31), none⟩]
@[simp] def f627r2 : List ROper := [
  ⟨some 8, .mv (.c (.bool true)), none⟩]
@[simp] def f627r3 : List ROper := [
  ⟨some 33, .mv (.t 0), none⟩,
  ⟨some 34, .call 628 [(.t 33)], none⟩,
  ⟨some 35, .mv (.t 1), none⟩,
  ⟨some 36, .call 310 [(.t 35)], none⟩,
  ⟨some 9, .mv (.t 34), none⟩,
  ⟨some 10, .mv (.t 36), none⟩]
@[simp] def f627r4 : List ROper := [
  ⟨some 38, .mv (.t 9), none⟩,
  ⟨some 39, .mv (.t 10), none⟩,
  ⟨some 40, .load 2 true (.t 6), none⟩,
  ⟨some 41, .call 113 [(.t 38), (.t 39), (.t 40)], none⟩,
  ⟨some 37, .mv (.t 41), none⟩,
  ⟨some 42, .extract (.t 37) 0, none⟩,
  ⟨some 43, .extract (.t 37) 1, none⟩,
  ⟨some 11, .mv (.t 42), none⟩,
  ⟨some 12, .mv (.t 43), none⟩]
@[simp] def f627r5 : List ROper := [
  ⟨some 45, .mv (.t 0), none⟩,
  ⟨some 46, .mv (.t 1), none⟩,
  ⟨some 47, .load 2 true (.t 6), none⟩,
  ⟨some 48, .call 634 [(.t 45), (.t 46), (.t 47)], none⟩,
  ⟨some 44, .mv (.t 48), none⟩,
  ⟨some 49, .extract (.t 44) 0, none⟩,
  ⟨some 50, .extract (.t 44) 1, none⟩,
  ⟨some 13, .mv (.t 49), none⟩,
  ⟨some 14, .mv (.t 50), none⟩]
@[simp] def f627r6 : List ROper := [
  ⟨some 51, .mv (.t 11), none⟩,
  ⟨some 52, .mv (.t 13), none⟩,
  ⟨some 53, .call 125 [(.t 51), (.t 52)], none⟩,
  ⟨some 54, .un .not (.t 53), none⟩,
  ⟨some 55, .mv (.t 54), none⟩,
  ⟨some 56, .mv (.t 12), some (55, false)⟩,
  ⟨some 57, .mv (.t 14), some (55, false)⟩,
  ⟨some 58, .bin .neq (.t 56) (.t 57), some (55, false)⟩,
  ⟨some 59, .pick (.t 55) (.c (.bool true)) (.t 58), none⟩,
  ⟨some 60, .mv (.t 59), none⟩,
  ⟨some 61, .mv (.t 10), some (60, false)⟩,
  ⟨some 62, .load 2 true (.t 6), some (60, false)⟩,
  ⟨some 63, .call 126 [(.t 61), (.t 62)], some (60, false)⟩,
  ⟨some 64, .mv (.t 1), some (60, false)⟩,
  ⟨some 65, .load 2 true (.t 6), some (60, false)⟩,
  ⟨some 66, .call 333 [(.t 64), (.t 65)], some (60, false)⟩,
  ⟨some 67, .bin .neq (.t 63) (.t 66), some (60, false)⟩,
  ⟨some 68, .pick (.t 60) (.c (.bool true)) (.t 67), none⟩,
  ⟨some 69, .mv (.t 68), none⟩,
  ⟨some 70, .mv (.t 10), some (69, false)⟩,
  ⟨some 71, .load 2 true (.t 6), some (69, false)⟩,
  ⟨some 72, .mv (.t 3), some (69, false)⟩,
  ⟨some 73, .call 114 [(.t 70), (.t 71), (.t 72)], some (69, false)⟩,
  ⟨some 74, .mv (.t 1), some (69, false)⟩,
  ⟨some 75, .load 2 true (.t 6), some (69, false)⟩,
  ⟨some 76, .mv (.t 3), some (69, false)⟩,
  ⟨some 77, .call 328 [(.t 74), (.t 75), (.t 76)], some (69, false)⟩,
  ⟨some 78, .eq (.agg [.int, .int]) true (.t 73) (.t 77), some (69, false)⟩,
  ⟨some 79, .pick (.t 69) (.c (.bool true)) (.t 78), none⟩]
@[simp] def f627r7 : List ROper := [
  ⟨some 8, .mv (.c (.bool false)), none⟩]
@[simp] def f627r8 : List ROper := [
  ⟨some 80, .mv (.t 9), none⟩,
  ⟨some 81, .mv (.t 0), none⟩,
  ⟨some 82, .call 633 [(.t 80), (.t 81)], none⟩,
  ⟨some 83, .mv (.t 82), none⟩,
  ⟨some 84, .mv (.t 10), some (83, true)⟩,
  ⟨some 85, .mv (.t 1), some (83, true)⟩,
  ⟨some 86, .call 318 [(.t 84), (.t 85)], some (83, true)⟩,
  ⟨some 87, .pick (.t 83) (.t 86) (.c (.bool false)), none⟩,
  ⟨some 88, .mv (.t 87), none⟩,
  ⟨some 89, .call 112 [], some (88, true)⟩,
  ⟨some 90, .pick (.t 88) (.t 89) (.c (.bool false)), none⟩,
  ⟨some 8, .mv (.t 90), none⟩]
def f627 : RFunc := ⟨[.t 8], (.seq (.region f627r0 [0, 1, 3, 6]) (.seq (.seq (.region f627r1 [0, 1, 3, 6, 32]) (.cond (.t 32) (.seq (.region f627r2 [8]) .ret) .skip)) (.seq (.region f627r3 [0, 1, 3, 6, 9, 10]) (.seq (.region f627r4 [0, 1, 3, 6, 9, 10, 11, 12]) (.seq (.region f627r5 [0, 1, 3, 6, 9, 10, 11, 12, 13, 14]) (.seq (.seq (.dregion f627r6 [] [] [0, 1, 9, 10, 79]) (.cond (.t 79) (.seq (.region f627r7 [8]) .ret) .skip)) (.seq (.region f627r8 [8]) .ret))))))), true⟩

/-! quire/quirekit.LentItems -/
@[simp] def f628r0 : List ROper := [
  ⟨some 2, .mv (.c (.list 0 0 .no false [])), none⟩]
@[simp] def f628r1 : List ROper := [
  ⟨some 5, .mv (.t 0), none⟩,
  ⟨some 6, .len .slice (.t 5), none⟩,
  ⟨some 7, .bin .add (.t 6) (.c (.int .i64 (.ofNat 3))), none⟩,
  ⟨some 8, .mkslice 8 true 64 [(.int .i64 (.ofNat 0)), (.int .i64 (.ofNat 0)), (.int .i64 (.ofNat 0)), (.int .i64 (.ofNat 0)), (.int .i64 (.ofNat 0)), (.int .i64 (.ofNat 0)), (.int .i64 (.ofNat 0)), (.bool false)] (.t 7) (.t 7), none⟩,
  ⟨some 3, .mv (.t 8), none⟩]
@[simp] def f628r2 : List ROper := [
  ⟨some 9, .mv (.t 3), none⟩,
  ⟨some 10, .mv (.t 0), none⟩,
  ⟨some 11, .copy 8 (.t 9) (.t 10), none⟩]
@[simp] def f628r3 : List ROper := [
  ⟨some 12, .mv (.t 0), none⟩,
  ⟨some 13, .len .slice (.t 12), none⟩,
  ⟨some 4, .mv (.t 13), none⟩]
@[simp] def f628r4 : List ROper := [
  ⟨some 14, .mv (.t 4), none⟩,
  ⟨some 15, .mv (.t 3), none⟩,
  ⟨some 16, .len .slice (.t 15), none⟩,
  ⟨some 17, .bin .lss (.t 14) (.t 16), none⟩]
@[simp] def f628r5 : List ROper := [
  ⟨some 20, .mv (.t 3), none⟩,
  ⟨some 21, .mv (.t 4), none⟩,
  ⟨some 22, .mv (.t 4), none⟩,
  ⟨some 23, .build [(.int .i64 (.ofNat 0)), (.int .i64 (.ofNat 0)), (.int .i64 (.ofNat 0)), (.int .i64 (.ofNat 0)), (.int .i64 (.ofNat 0)), (.int .i64 (.ofNat 0)), (.int .i64 (.ofNat 0)), (.bool false)] [(0, 1, (.c (.int .i64 (.ofNat 77)))), (3, 1, (.t 22))], none⟩,
  ⟨some 24, .iaddr 8 (.t 20) (.t 21), none⟩,
  ⟨none, .store 8 (.t 24) (.t 23), none⟩]
@[simp] def f628r6 : List ROper := [
  ⟨some 18, .mv (.t 4), none⟩,
  ⟨some 19, .bin .add (.t 18) (.c (.int .i64 (.ofNat 1))), none⟩,
  ⟨some 4, .mv (.t 19), none⟩]
def f628B0 : RC := (.seq (.seq (.region f628r4 [0, 3, 4, 17]) (.cond (.t 17) .skip (.exit 0))) (.seq (.block 1 (.region f628r5 [0, 3, 4])) (.region f628r6 [0, 3, 4])))
def f628L0 : RC := .loop [0, 3, 4] f628B0
@[simp] def f628r7 : List ROper := [
  ⟨some 25, .mv (.t 3), none⟩,
  ⟨some 26, .mv (.t 0), none⟩,
  ⟨some 27, .len .slice (.t 26), none⟩,
  ⟨some 28, .slice false 8 (.t 25) none (some (.t 27)) none, none⟩,
  ⟨some 2, .mv (.t 28), none⟩]
def f628 : RFunc := ⟨[.t 2], (.seq (.region f628r0 [0]) (.seq (.region f628r1 [0, 3]) (.seq (.region f628r2 [0, 3]) (.seq (.seq (.region f628r3 [0, 3, 4]) (.block 0 f628L0)) (.seq (.region f628r7 [2]) .ret))))), false⟩

/-! quire/quireref10.Start -/
@[simp] def f629r0 : List ROper := [
  ⟨some 4, .mv (.c (.int .i64 (.ofNat 0))), none⟩,
  ⟨some 5, .mv (.c (.int .i64 (.ofNat 0))), none⟩]
@[simp] def f629r1 : List ROper := [
  ⟨some 7, .mv (.t 0), none⟩,
  ⟨some 8, .call 349 [(.t 7)], none⟩,
  ⟨some 6, .mv (.t 8), none⟩]
@[simp] def f629r2 : List ROper := [
  ⟨some 9, .mv (.t 6), none⟩,
  ⟨some 10, .bin .neq (.t 9) (.c (.int .i64 (.ofNat 0))), none⟩]
@[simp] def f629r3 : List ROper := [
  ⟨some 11, .mv (.t 6), none⟩,
  ⟨some 4, .mv (.c (.int .i64 (.ofNat 0))), none⟩,
  ⟨some 5, .mv (.t 11), none⟩]
@[simp] def f629r4 : List ROper := [
  ⟨some 12, .mv (.t 1), none⟩,
  ⟨some 13, .bin .lss (.t 12) (.c (.int .i64 (.ofNat 0))), none⟩,
  ⟨some 14, .mv (.t 13), none⟩,
  ⟨some 15, .mv (.t 1), some (14, false)⟩,
  ⟨some 16, .mv (.t 0), some (14, false)⟩,
  ⟨some 17, .len .slice (.t 16), some (14, false)⟩,
  ⟨some 18, .bin .gtr (.t 15) (.t 17), some (14, false)⟩,
  ⟨some 19, .pick (.t 14) (.c (.bool true)) (.t 18), none⟩]
@[simp] def f629r5 : List ROper := [
  ⟨some 4, .mv (.c (.int .i64 (.ofNat 0))), none⟩,
  ⟨some 5, .mv (.c (.int .i64 (.ofNat 5))), none⟩]
@[simp] def f629r6 : List ROper := [
  ⟨some 20, .mv (.t 0), none⟩,
  ⟨some 21, .mv (.t 1), none⟩,
  ⟨some 22, .call 340 [(.t 20), (.t 21)], none⟩,
  ⟨some 4, .mv (.t 22), none⟩,
  ⟨some 5, .mv (.c (.int .i64 (.ofNat 0))), none⟩]
def f629 : RFunc := ⟨[.t 4, .t 5], (.seq (.region f629r0 [0, 1]) (.seq (.region f629r1 [0, 1, 6]) (.seq (.seq (.region f629r2 [0, 1, 6, 10]) (.cond (.t 10) (.seq (.region f629r3 [4, 5]) .ret) .skip)) (.seq (.seq (.region f629r4 [0, 1, 19]) (.cond (.t 19) (.seq (.region f629r5 [4, 5]) .ret) .skip)) (.seq (.region f629r6 [4, 5]) .ret))))), true⟩

/-! quire/quireref10.Width -/
@[simp] def f630r0 : List ROper := [
  ⟨some 8, .mv (.c (.int .i64 (.ofNat 0))), none⟩,
  ⟨some 9, .mv (.c (.int .i64 (.ofNat 0))), none⟩]
@[simp] def f630r1 : List ROper := [
  ⟨some 11, .mv (.t 0), none⟩,
  ⟨some 12, .call 349 [(.t 11)], none⟩,
  ⟨some 10, .mv (.t 12), none⟩]
@[simp] def f630r2 : List ROper := [
  ⟨some 13, .mv (.t 10), none⟩,
  ⟨some 14, .bin .neq (.t 13) (.c (.int .i64 (.ofNat 0))), none⟩]
@[simp] def f630r3 : List ROper := [
  ⟨some 15, .mv (.t 10), none⟩,
  ⟨some 8, .mv (.c (.int .i64 (.ofNat 0))), none⟩,
  ⟨some 9, .mv (.t 15), none⟩]
@[simp] def f630r4 : List ROper := [
  ⟨some 16, .mv (.t 1), none⟩,
  ⟨some 17, .bin .lss (.t 16) (.c (.int .i64 (.ofNat 0))), none⟩,
  ⟨some 18, .mv (.t 17), none⟩,
  ⟨some 19, .mv (.t 2), some (18, false)⟩,
  ⟨some 20, .mv (.t 1), some (18, false)⟩,
  ⟨some 21, .bin .lss (.t 19) (.t 20), some (18, false)⟩,
  ⟨some 22, .pick (.t 18) (.c (.bool true)) (.t 21), none⟩,
  ⟨some 23, .mv (.t 22), none⟩,
  ⟨some 24, .mv (.t 2), some (23, false)⟩,
  ⟨some 25, .mv (.t 0), some (23, false)⟩,
  ⟨some 26, .len .slice (.t 25), some (23, false)⟩,
  ⟨some 27, .bin .gtr (.t 24) (.t 26), some (23, false)⟩,
  ⟨some 28, .pick (.t 23) (.c (.bool true)) (.t 27), none⟩,
  ⟨some 29, .mv (.t 28), none⟩,
  ⟨some 30, .mv (.t 3), some (29, false)⟩,
  ⟨some 31, .call 354 [(.t 30)], some (29, false)⟩,
  ⟨some 32, .un .not (.t 31), some (29, false)⟩,
  ⟨some 33, .pick (.t 29) (.c (.bool true)) (.t 32), none⟩]
@[simp] def f630r5 : List ROper := [
  ⟨some 8, .mv (.c (.int .i64 (.ofNat 0))), none⟩,
  ⟨some 9, .mv (.c (.int .i64 (.ofNat 5))), none⟩]
@[simp] def f630r6 : List ROper := [
  ⟨some 34, .mv (.t 0), none⟩,
  ⟨some 35, .mv (.t 1), none⟩,
  ⟨some 36, .mv (.t 2), none⟩,
  ⟨some 37, .mv (.t 3), none⟩,
  ⟨some 38, .call 352 [(.t 34), (.t 35), (.t 36), (.t 37)], none⟩,
  ⟨some 8, .mv (.t 38), none⟩,
  ⟨some 9, .mv (.c (.int .i64 (.ofNat 0))), none⟩]
def f630 : RFunc := ⟨[.t 8, .t 9], (.seq (.region f630r0 [0, 1, 2, 3]) (.seq (.region f630r1 [0, 1, 2, 3, 10]) (.seq (.seq (.region f630r2 [0, 1, 2, 3, 10, 14]) (.cond (.t 14) (.seq (.region f630r3 [8, 9]) .ret) .skip)) (.seq (.seq (.region f630r4 [0, 1, 2, 3, 33]) (.cond (.t 33) (.seq (.region f630r5 [8, 9]) .ret) .skip)) (.seq (.region f630r6 [8, 9]) .ret))))), true⟩

/-! quire/quireref10.Give -/
@[simp] def f631r0 : List ROper := [
  ⟨some 6, .mv (.c (.int .i64 (.ofNat 0))), none⟩,
  ⟨some 7, .mv (.c (.int .i64 (.ofNat 0))), none⟩,
  ⟨some 8, .mv (.c (.int .i64 (.ofNat 0))), none⟩]
@[simp] def f631r1 : List ROper := [
  ⟨some 12, .mv (.t 0), none⟩,
  ⟨some 13, .call 349 [(.t 12)], none⟩,
  ⟨some 9, .mv (.t 13), none⟩]
@[simp] def f631r2 : List ROper := [
  ⟨some 14, .mv (.t 9), none⟩,
  ⟨some 15, .bin .neq (.t 14) (.c (.int .i64 (.ofNat 0))), none⟩]
@[simp] def f631r3 : List ROper := [
  ⟨some 16, .mv (.t 9), none⟩,
  ⟨some 6, .mv (.c (.int .i64 (.ofNat 0))), none⟩,
  ⟨some 7, .mv (.c (.int .i64 (.ofNat 0))), none⟩,
  ⟨some 8, .mv (.t 16), none⟩]
@[simp] def f631r4 : List ROper := [
  ⟨some 17, .mv (.t 1), none⟩,
  ⟨some 18, .bin .lss (.t 17) (.c (.int .i64 (.ofNat 0))), none⟩,
  ⟨some 19, .mv (.t 18), none⟩,
  ⟨some 20, .mv (.t 2), some (19, false)⟩,
  ⟨some 21, .mv (.t 1), some (19, false)⟩,
  ⟨some 22, .bin .lss (.t 20) (.t 21), some (19, false)⟩,
  ⟨some 23, .pick (.t 19) (.c (.bool true)) (.t 22), none⟩,
  ⟨some 24, .mv (.t 23), none⟩,
  ⟨some 25, .mv (.t 2), some (24, false)⟩,
  ⟨some 26, .mv (.t 0), some (24, false)⟩,
  ⟨some 27, .len .slice (.t 26), some (24, false)⟩,
  ⟨some 28, .bin .gtr (.t 25) (.t 27), some (24, false)⟩,
  ⟨some 29, .pick (.t 24) (.c (.bool true)) (.t 28), none⟩]
@[simp] def f631r5 : List ROper := [
  ⟨some 6, .mv (.c (.int .i64 (.ofNat 0))), none⟩,
  ⟨some 7, .mv (.c (.int .i64 (.ofNat 0))), none⟩,
  ⟨some 8, .mv (.c (.int .i64 (.ofNat 5))), none⟩]
@[simp] def f631r6 : List ROper := [
  ⟨some 31, .mv (.t 0), none⟩,
  ⟨some 32, .mv (.t 1), none⟩,
  ⟨some 33, .mv (.t 2), none⟩,
  ⟨some 34, .call 329 [(.t 31), (.t 32), (.t 33)], none⟩,
  ⟨some 30, .mv (.t 34), none⟩,
  ⟨some 35, .extract (.t 30) 0, none⟩,
  ⟨some 36, .extract (.t 30) 1, none⟩,
  ⟨some 10, .mv (.t 35), none⟩,
  ⟨some 11, .mv (.t 36), none⟩]
@[simp] def f631r7 : List ROper := [
  ⟨some 37, .mv (.t 10), none⟩,
  ⟨some 38, .mv (.t 11), none⟩,
  ⟨some 6, .mv (.t 37), none⟩,
  ⟨some 7, .mv (.t 38), none⟩,
  ⟨some 8, .mv (.c (.int .i64 (.ofNat 0))), none⟩]
def f631 : RFunc := ⟨[.t 6, .t 7, .t 8], (.seq (.region f631r0 [0, 1, 2]) (.seq (.region f631r1 [0, 1, 2, 9]) (.seq (.seq (.region f631r2 [0, 1, 2, 9, 15]) (.cond (.t 15) (.seq (.region f631r3 [6, 7, 8]) .ret) .skip)) (.seq (.seq (.region f631r4 [0, 1, 2, 29]) (.cond (.t 29) (.seq (.region f631r5 [6, 7, 8]) .ret) .skip)) (.seq (.region f631r6 [10, 11]) (.seq (.region f631r7 [6, 7, 8]) .ret)))))), true⟩

/-! quire/quireref10.Legal -/
@[simp] def f632r0 : List ROper := [
  ⟨some 4, .mv (.c (.bool false)), none⟩]
@[simp] def f632r1 : List ROper := [
  ⟨some 5, .mv (.t 0), none⟩,
  ⟨some 6, .call 349 [(.t 5)], none⟩,
  ⟨some 7, .bin .eql (.t 6) (.c (.int .i64 (.ofNat 0))), none⟩,
  ⟨some 8, .mv (.t 7), none⟩,
  ⟨some 9, .mv (.t 1), some (8, true)⟩,
  ⟨some 10, .bin .geq (.t 9) (.c (.int .i64 (.ofNat 0))), some (8, true)⟩,
  ⟨some 11, .pick (.t 8) (.t 10) (.c (.bool false)), none⟩,
  ⟨some 12, .mv (.t 11), none⟩,
  ⟨some 13, .mv (.t 1), some (12, true)⟩,
  ⟨some 14, .mv (.t 0), some (12, true)⟩,
  ⟨some 15, .len .slice (.t 14), some (12, true)⟩,
  ⟨some 16, .bin .leq (.t 13) (.t 15), some (12, true)⟩,
  ⟨some 17, .pick (.t 12) (.t 16) (.c (.bool false)), none⟩,
  ⟨some 18, .mv (.t 17), none⟩,
  ⟨some 19, .mv (.t 0), some (18, true)⟩,
  ⟨some 20, .mv (.t 1), some (18, true)⟩,
  ⟨some 21, .call 353 [(.t 19), (.t 20)], some (18, true)⟩,
  ⟨some 22, .pick (.t 18) (.t 21) (.c (.bool false)), none⟩,
  ⟨some 4, .mv (.t 22), none⟩]
def f632 : RFunc := ⟨[.t 4], (.seq (.region f632r0 [0, 1]) (.seq (.region f632r1 [4]) .ret)), true⟩

/-! quire/quirekit.KeptItems -/
@[simp] def f633r0 : List ROper := [
  ⟨some 4, .mv (.c (.bool false)), none⟩]
@[simp] def f633r1 : List ROper := [
  ⟨some 5, .mv (.t 0), none⟩,
  ⟨some 6, .len .slice (.t 5), none⟩,
  ⟨some 7, .mv (.t 1), none⟩,
  ⟨some 8, .len .slice (.t 7), none⟩,
  ⟨some 9, .bin .eql (.t 6) (.t 8), none⟩,
  ⟨some 10, .mv (.t 9), none⟩,
  ⟨some 11, .mv (.t 0), some (10, true)⟩,
  ⟨some 12, .mv (.t 0), some (10, true)⟩,
  ⟨some 13, .cap (.t 12), some (10, true)⟩,
  ⟨some 14, .slice false 8 (.t 11) none (some (.t 13)) none, some (10, true)⟩,
  ⟨some 15, .mv (.t 1), some (10, true)⟩,
  ⟨some 16, .call 628 [(.t 15)], some (10, true)⟩,
  ⟨some 17, .mv (.t 1), some (10, true)⟩,
  ⟨some 18, .len .slice (.t 17), some (10, true)⟩,
  ⟨some 19, .bin .add (.t 18) (.c (.int .i64 (.ofNat 3))), some (10, true)⟩,
  ⟨some 20, .slice false 8 (.t 16) none (some (.t 19)) none, some (10, true)⟩,
  ⟨some 21, .call 119 [(.t 14), (.t 20)], some (10, true)⟩,
  ⟨some 22, .pick (.t 10) (.t 21) (.c (.bool false)), none⟩,
  ⟨some 4, .mv (.t 22), none⟩]
def f633 : RFunc := ⟨[.t 4], (.seq (.region f633r0 [0, 1]) (.seq (.dregion f633r1 [] [(13, [0])] [4]) .ret)), true⟩

/-! quire/quireref11.Break -/
@[simp] def f634r0 : List ROper := [
  ⟨some 5, .box 2 (.t 2), none⟩,
  ⟨some 6, .mv (.c (.list 0 0 .no false [])), none⟩,
  ⟨some 7, .mv (.c (.int .i64 (.ofNat 0))), none⟩]
@[simp] def f634r1 : List ROper := [
  ⟨some 9, .mv (.t 0), none⟩,
  ⟨some 10, .call 349 [(.t 9)], none⟩,
  ⟨some 8, .mv (.t 10), none⟩]
@[simp] def f634r2 : List ROper := [
  ⟨some 11, .mv (.t 8), none⟩,
  ⟨some 12, .bin .eql (.t 11) (.c (.int .i64 (.ofNat 0))), none⟩]
@[simp] def f634r3 : List ROper := [
  ⟨some 13, .mv (.t 1), none⟩,
  ⟨some 14, .load 2 true (.t 5), none⟩,
  ⟨some 15, .call 333 [(.t 13), (.t 14)], none⟩,
  ⟨some 8, .mv (.t 15), none⟩]
@[simp] def f634r4 : List ROper := [
  ⟨some 16, .mv (.t 8), none⟩,
  ⟨some 17, .bin .neq (.t 16) (.c (.int .i64 (.ofNat 0))), none⟩]
@[simp] def f634r5 : List ROper := [
  ⟨some 18, .mv (.t 8), none⟩,
  ⟨some 6, .mv (.c (.list 0 0 .no false [])), none⟩,
  ⟨some 7, .mv (.t 18), none⟩]
@[simp] def f634r6 : List ROper := [
  ⟨some 19, .mv (.t 0), none⟩,
  ⟨some 20, .mv (.t 1), none⟩,
  ⟨some 21, .load 2 true (.t 5), none⟩,
  ⟨some 22, .call 327 [(.t 19), (.t 20), (.t 21)], none⟩,
  ⟨some 6, .mv (.t 22), none⟩,
  ⟨some 7, .mv (.c (.int .i64 (.ofNat 0))), none⟩]
def f634 : RFunc := ⟨[.t 6, .t 7], (.seq (.region f634r0 [0, 1, 5]) (.seq (.region f634r1 [0, 1, 5, 8]) (.seq (.seq (.region f634r2 [0, 1, 5, 8, 12]) (.cond (.t 12) (.region f634r3 [0, 1, 5, 8]) .skip)) (.seq (.seq (.region f634r4 [0, 1, 5, 8, 17]) (.cond (.t 17) (.seq (.region f634r5 [6, 7]) .ret) .skip)) (.seq (.region f634r6 [6, 7]) .ret))))), true⟩

def tree : TT := (.node 131 (.node 76 (.node 51 (.node 30 (.node 23 (.node 17 (.node 13 (.leaf 10 (.code f10)) (.leaf 13 (.code f13))) (.node 21 (.leaf 17 (.code f17)) (.leaf 21 (.code f21)))) (.node 27 (.node 26 (.leaf 23 (.code f23)) (.leaf 26 (.code f26))) (.node 29 (.leaf 27 (.code f27)) (.leaf 29 (.code f29))))) (.node 41 (.node 32 (.node 31 (.leaf 30 (.code f30)) (.leaf 31 (.code f31))) (.node 40 (.leaf 32 (.code f32)) (.leaf 40 (.code f40)))) (.node 43 (.node 42 (.leaf 41 (.code f41)) (.leaf 42 (.code f42))) (.node 44 (.leaf 43 (.code f43)) (.leaf 44 (.code f44)))))) (.node 64 (.node 57 (.node 55 (.node 54 (.leaf 51 (.code f51)) (.leaf 54 (.code f54))) (.node 56 (.leaf 55 (.code f55)) (.leaf 56 (.code f56)))) (.node 62 (.node 61 (.leaf 57 (.code f57)) (.leaf 61 (.code f61))) (.node 63 (.leaf 62 (.code f62)) (.leaf 63 (.code f63))))) (.node 70 (.node 68 (.node 65 (.leaf 64 (.prim countByteD)) (.leaf 65 (.code f65))) (.node 69 (.leaf 68 (.code f68)) (.leaf 69 (.code f69)))) (.node 73 (.node 72 (.leaf 70 (.code f70)) (.leaf 72 (.prim indexByteD))) (.node 74 (.leaf 73 (.code f73)) (.leaf 74 (.code f74))))))) (.node 114 (.node 106 (.node 101 (.node 78 (.node 77 (.leaf 76 (.code f76)) (.leaf 77 (.code f77))) (.node 100 (.leaf 78 (.code f78)) (.leaf 100 (.code f100)))) (.node 103 (.node 102 (.leaf 101 (.code f101)) (.leaf 102 (.code f102))) (.node 105 (.leaf 103 (.code f103)) (.leaf 105 (.code f105))))) (.node 110 (.node 108 (.node 107 (.leaf 106 (.code f106)) (.leaf 107 (.code f107))) (.node 109 (.leaf 108 (.code f108)) (.leaf 109 (.code f109)))) (.node 112 (.node 111 (.leaf 110 (.code f110)) (.leaf 111 (.code f111))) (.node 113 (.leaf 112 (.code f112)) (.leaf 113 (.code f113)))))) (.node 123 (.node 119 (.node 117 (.node 116 (.leaf 114 (.code f114)) (.leaf 116 (.code f116))) (.node 118 (.leaf 117 (.code f117)) (.leaf 118 (.code f118)))) (.node 121 (.node 120 (.leaf 119 (.code f119)) (.leaf 120 (.code f120))) (.node 122 (.leaf 121 (.code f121)) (.leaf 122 (.code f122))))) (.node 127 (.node 125 (.node 124 (.leaf 123 (.code f123)) (.leaf 124 (.code f124))) (.node 126 (.leaf 125 (.code f125)) (.leaf 126 (.code f126)))) (.node 129 (.node 128 (.leaf 127 (.code f127)) (.leaf 128 (.code f128))) (.node 130 (.leaf 129 (.code f129)) (.leaf 130 (.code f130)))))))) (.node 163 (.node 147 (.node 139 (.node 135 (.node 133 (.node 132 (.leaf 131 (.code f131)) (.leaf 132 (.code f132))) (.node 134 (.leaf 133 (.code f133)) (.leaf 134 (.code f134)))) (.node 137 (.node 136 (.leaf 135 (.code f135)) (.leaf 136 (.code f136))) (.node 138 (.leaf 137 (.code f137)) (.leaf 138 (.code f138))))) (.node 143 (.node 141 (.node 140 (.leaf 139 (.code f139)) (.leaf 140 (.code f140))) (.node 142 (.leaf 141 (.code f141)) (.leaf 142 (.code f142)))) (.node 145 (.node 144 (.leaf 143 (.code f143)) (.leaf 144 (.code f144))) (.node 146 (.leaf 145 (.code f145)) (.leaf 146 (.code f146)))))) (.node 155 (.node 151 (.node 149 (.node 148 (.leaf 147 (.code f147)) (.leaf 148 (.code f148))) (.node 150 (.leaf 149 (.code f149)) (.leaf 150 (.code f150)))) (.node 153 (.node 152 (.leaf 151 (.code f151)) (.leaf 152 (.code f152))) (.node 154 (.leaf 153 (.code f153)) (.leaf 154 (.code f154))))) (.node 159 (.node 157 (.node 156 (.leaf 155 (.code f155)) (.leaf 156 (.code f156))) (.node 158 (.leaf 157 (.code f157)) (.leaf 158 (.code f158)))) (.node 161 (.node 160 (.leaf 159 (.code f159)) (.leaf 160 (.code f160))) (.node 162 (.leaf 161 (.code f161)) (.leaf 162 (.code f162))))))) (.node 340 (.node 318 (.node 167 (.node 165 (.node 164 (.leaf 163 (.code f163)) (.leaf 164 (.code f164))) (.node 166 (.leaf 165 (.code f165)) (.leaf 166 (.code f166)))) (.node 310 (.node 241 (.leaf 167 (.code f167)) (.leaf 241 (.code f241))) (.node 316 (.leaf 310 (.code f310)) (.leaf 316 (.code f316))))) (.node 328 (.node 325 (.node 322 (.leaf 318 (.code f318)) (.leaf 322 (.code f322))) (.node 327 (.leaf 325 (.code f325)) (.leaf 327 (.code f327)))) (.node 333 (.node 329 (.leaf 328 (.code f328)) (.leaf 329 (.code f329))) (.node 339 (.leaf 333 (.code f333)) (.leaf 339 (.code f339)))))) (.node 626 (.node 349 (.node 342 (.node 341 (.leaf 340 (.code f340)) (.leaf 341 (.code f341))) (.node 347 (.leaf 342 (.code f342)) (.leaf 347 (.code f347)))) (.node 353 (.node 352 (.leaf 349 (.code f349)) (.leaf 352 (.code f352))) (.node 354 (.leaf 353 (.code f353)) (.leaf 354 (.code f354))))) (.node 630 (.node 628 (.node 627 (.leaf 626 (.code f626)) (.leaf 627 (.code f627))) (.node 629 (.leaf 628 (.code f628)) (.leaf 629 (.code f629)))) (.node 632 (.node 631 (.leaf 630 (.code f630)) (.leaf 631 (.code f631))) (.node 633 (.leaf 632 (.code f632)) (.node 634 (.leaf 633 (.code f633)) (.leaf 634 (.code f634))))))))))

def fms : List (Nat × FuncId) := [(10, 70), (13, 80), (17, 89), (21, 98), (23, 88), (26, 58), (27, 81), (29, 82), (30, 83), (31, 84), (32, 85), (40, 90), (41, 91), (42, 92), (43, 93), (44, 94), (51, 106), (310, 20), (54, 95), (55, 96), (56, 97), (57, 99), (316, 52), (61, 107), (318, 28), (62, 108), (63, 109), (64, 110), (65, 111), (322, 10), (68, 112), (325, 17), (69, 113), (70, 114), (327, 49), (328, 27), (72, 121), (329, 37), (73, 122), (74, 123), (75, 127), (76, 128), (333, 25), (77, 129), (78, 132), (339, 66), (340, 30), (341, 61), (342, 55), (347, 51), (349, 13), (352, 36), (353, 40), (354, 35), (100, 44), (101, 6), (102, 19), (103, 14), (105, 43), (106, 57), (107, 42), (108, 16), (109, 12), (110, 8), (111, 53), (112, 29), (113, 21), (626, 3), (114, 26), (627, 4), (116, 39), (628, 5), (629, 7), (117, 64), (630, 9), (118, 65), (631, 11), (119, 41), (632, 15), (120, 38), (633, 18), (121, 31), (634, 22), (122, 32), (123, 33), (124, 34), (125, 23), (126, 24), (127, 45), (128, 46), (129, 47), (130, 48), (131, 71), (132, 72), (133, 73), (134, 74), (135, 75), (136, 76), (137, 77), (138, 78), (139, 54), (140, 50), (141, 59), (142, 60), (143, 86), (144, 87), (145, 62), (146, 63), (147, 100), (148, 101), (149, 102), (150, 103), (151, 104), (152, 105), (153, 67), (154, 68), (155, 69), (156, 115), (157, 116), (158, 117), (159, 118), (160, 119), (161, 120), (162, 79), (163, 124), (164, 125), (165, 126), (166, 130), (167, 131), (241, 56)]

def env : List (Nat × List Nat) := [(0, asciiSpaceL)]

end Go.D.Tab
