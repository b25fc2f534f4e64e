/-
The code of what the laws reach, as a table of the small language. Printed by wip/gen.
-/
import Derived.Test.YtfognfpgcjgpkaaDoorTab0
namespace Go.D.Tab

/-! quire/item.hyphen -/
@[simp] def f138r0 : List ROper := [
  ⟨some 2, .mv (.c (.int .i64 (.ofNat 0))), none⟩]
@[simp] def f138r1 : List ROper := [
  ⟨some 6, .mv (.t 0), none⟩,
  ⟨some 7, .call 17 [(.c (.str [45])), (.t 6)], none⟩,
  ⟨some 5, .mv (.t 7), none⟩,
  ⟨some 8, .extract (.t 5) 0, none⟩,
  ⟨some 9, .extract (.t 5) 1, none⟩,
  ⟨some 3, .mv (.t 8), none⟩,
  ⟨some 4, .mv (.t 9), none⟩]
@[simp] def f138r2 : List ROper := [
  ⟨some 10, .mv (.t 3), none⟩,
  ⟨some 2, .mv (.t 10), none⟩]
def f138 : RFunc := ⟨[.t 2], (.seq (.region f138r0 [0]) (.seq (.region f138r1 [3]) (.seq (.region f138r2 [2]) .ret))), true⟩

/-! quire/tab.Next -/
@[simp] def f139r0 : List ROper := [
  ⟨some 4, .alloc [(.int .i64 (.ofNat 0)), (.int .i64 (.ofNat 0))], none⟩,
  ⟨some 5, .mv (.c (.int .i64 (.ofNat 0))), none⟩]
@[simp] def f139r1 : List ROper := [
  ⟨some 7, .mv (.t 0), none⟩,
  ⟨some 8, .call 145 [(.t 7)], none⟩,
  ⟨some 6, .mv (.t 8), none⟩]
@[simp] def f139r2 : List ROper := [
  ⟨some 9, .mv (.t 6), none⟩,
  ⟨some 10, .bin .neq (.t 9) (.c (.int .i64 (.ofNat 0))), none⟩]
@[simp] def f139r3 : List ROper := [
  ⟨some 11, .build [(.int .i64 (.ofNat 0)), (.int .i64 (.ofNat 0))] [], none⟩,
  ⟨some 12, .mv (.t 6), none⟩,
  ⟨none, .store 2 (.t 4) (.t 11), none⟩,
  ⟨some 5, .mv (.t 12), none⟩]
@[simp] def f139r4 : List ROper := [
  ⟨some 13, .mv (.t 1), none⟩,
  ⟨some 14, .bin .lss (.t 13) (.c (.int .i64 (.ofNat 0))), none⟩,
  ⟨some 15, .mv (.t 14), none⟩,
  ⟨some 16, .mv (.t 1), some (15, false)⟩,
  ⟨some 17, .bin .gtr (.t 16) (.c (.int .i64 (.ofNat 8190))), some (15, false)⟩,
  ⟨some 18, .pick (.t 15) (.c (.bool true)) (.t 17), none⟩]
@[simp] def f139r5 : List ROper := [
  ⟨some 19, .build [(.int .i64 (.ofNat 0)), (.int .i64 (.ofNat 0))] [], none⟩,
  ⟨none, .store 2 (.t 4) (.t 19), none⟩,
  ⟨some 5, .mv (.c (.int .i64 (.ofNat 5))), none⟩]
@[simp] def f139r6 : List ROper := [
  ⟨some 20, .mv (.t 0), none⟩,
  ⟨some 21, .mv (.t 1), none⟩,
  ⟨some 22, .call 146 [(.t 20), (.t 21)], none⟩,
  ⟨none, .store 2 (.t 4) (.t 22), none⟩,
  ⟨some 5, .mv (.c (.int .i64 (.ofNat 0))), none⟩]
def f139 : RFunc := ⟨[.cell 4 2 true, .t 5], (.seq (.region f139r0 [0, 1, 4]) (.seq (.seq (.region f139r1 [0, 1, 4, 6]) (.seq (.region f139r2 [0, 1, 4, 6, 10]) (.cond (.t 10) (.seq (.region f139r3 [4, 5]) .ret) .skip))) (.seq (.seq (.region f139r4 [0, 1, 4, 18]) (.cond (.t 18) (.seq (.region f139r5 [4, 5]) .ret) .skip)) (.seq (.region f139r6 [4, 5]) .ret)))), true⟩

/-! quire/first.may -/
@[simp] def f140r0 : List ROper := [
  ⟨some 1, .box 2 (.t 0), none⟩,
  ⟨some 2, .mv (.c (.bool false)), none⟩]
@[simp] def f140r1 : List ROper := [
  ⟨some 3, .faddr 0 (.t 1), none⟩,
  ⟨some 4, .load 1 false (.t 3), none⟩,
  ⟨some 5, .bin .geq (.t 4) (.c (.int .i64 (.ofNat 0))), none⟩,
  ⟨some 6, .mv (.t 5), none⟩,
  ⟨some 7, .faddr 0 (.t 1), some (6, true)⟩,
  ⟨some 8, .load 1 false (.t 7), some (6, true)⟩,
  ⟨some 9, .bin .leq (.t 8) (.c (.int .i64 (.ofNat 4095))), some (6, true)⟩,
  ⟨some 10, .pick (.t 6) (.t 9) (.c (.bool false)), none⟩,
  ⟨some 11, .mv (.t 10), none⟩,
  ⟨some 12, .faddr 1 (.t 1), some (11, true)⟩,
  ⟨some 13, .load 1 false (.t 12), some (11, true)⟩,
  ⟨some 14, .bin .geq (.t 13) (.c (.int .i64 (.ofNat 0))), some (11, true)⟩,
  ⟨some 15, .pick (.t 11) (.t 14) (.c (.bool false)), none⟩,
  ⟨some 16, .mv (.t 15), none⟩,
  ⟨some 17, .faddr 1 (.t 1), some (16, true)⟩,
  ⟨some 18, .load 1 false (.t 17), some (16, true)⟩,
  ⟨some 19, .bin .leq (.t 18) (.c (.int .i64 (.ofNat 4095))), some (16, true)⟩,
  ⟨some 20, .pick (.t 16) (.t 19) (.c (.bool false)), none⟩,
  ⟨some 2, .mv (.t 20), none⟩]
def f140 : RFunc := ⟨[.t 2], (.seq (.region f140r0 [1]) (.seq (.region f140r1 [2]) .ret)), true⟩

/-! (*quire/first.breaker).legal -/
@[simp] def f141r0 : List ROper := [
  ⟨some 4, .mv (.c (.bool false)), none⟩]
@[simp] def f141r1 : List ROper := [
  ⟨some 5, .mv (.t 1), none⟩,
  ⟨some 6, .mv (.t 0), none⟩,
  ⟨some 7, .nilchk (.t 6), none⟩,
  ⟨some 8, .faddr 0 (.t 7), none⟩,
  ⟨some 9, .load 1 false (.t 8), none⟩,
  ⟨some 10, .len .slice (.t 9), none⟩,
  ⟨some 11, .bin .eql (.t 5) (.t 10), none⟩,
  ⟨some 12, .mv (.t 11), none⟩,
  ⟨some 13, .mv (.t 0), some (12, false)⟩,
  ⟨some 14, .nilchk (.t 13), some (12, false)⟩,
  ⟨some 15, .faddr 0 (.t 14), some (12, false)⟩,
  ⟨some 16, .load 1 false (.t 15), some (12, false)⟩,
  ⟨some 17, .mv (.t 1), some (12, false)⟩,
  ⟨some 18, .iaddr 8 (.t 16) (.t 17), some (12, false)⟩,
  ⟨some 19, .faddr 0 (.t 18), some (12, false)⟩,
  ⟨some 20, .load 1 false (.t 19), some (12, false)⟩,
  ⟨some 21, .bin .eql (.t 20) (.c (.int .i64 (.ofNat 3))), some (12, false)⟩,
  ⟨some 22, .pick (.t 12) (.c (.bool true)) (.t 21), none⟩]
@[simp] def f141r2 : List ROper := [
  ⟨some 4, .mv (.c (.bool true)), none⟩]
@[simp] def f141r3 : List ROper := [
  ⟨some 23, .mv (.t 0), none⟩,
  ⟨some 24, .nilchk (.t 23), none⟩,
  ⟨some 25, .faddr 0 (.t 24), none⟩,
  ⟨some 26, .load 1 false (.t 25), none⟩,
  ⟨some 27, .mv (.t 1), none⟩,
  ⟨some 28, .iaddr 8 (.t 26) (.t 27), none⟩,
  ⟨some 29, .faddr 0 (.t 28), none⟩,
  ⟨some 30, .load 1 false (.t 29), none⟩,
  ⟨some 31, .bin .eql (.t 30) (.c (.int .i64 (.ofNat 2))), none⟩,
  ⟨some 32, .mv (.t 31), none⟩,
  ⟨some 33, .mv (.t 1), some (32, true)⟩,
  ⟨some 34, .bin .gtr (.t 33) (.c (.int .i64 (.ofNat 0))), some (32, true)⟩,
  ⟨some 35, .pick (.t 32) (.t 34) (.c (.bool false)), none⟩,
  ⟨some 36, .mv (.t 35), none⟩,
  ⟨some 37, .mv (.t 0), some (36, true)⟩,
  ⟨some 38, .nilchk (.t 37), some (36, true)⟩,
  ⟨some 39, .faddr 0 (.t 38), some (36, true)⟩,
  ⟨some 40, .load 1 false (.t 39), some (36, true)⟩,
  ⟨some 41, .mv (.t 1), some (36, true)⟩,
  ⟨some 42, .bin .sub (.t 41) (.c (.int .i64 (.ofNat 1))), some (36, true)⟩,
  ⟨some 43, .iaddr 8 (.t 40) (.t 42), some (36, true)⟩,
  ⟨some 44, .faddr 0 (.t 43), some (36, true)⟩,
  ⟨some 45, .load 1 false (.t 44), some (36, true)⟩,
  ⟨some 46, .bin .neq (.t 45) (.c (.int .i64 (.ofNat 2))), some (36, true)⟩,
  ⟨some 47, .pick (.t 36) (.t 46) (.c (.bool false)), none⟩,
  ⟨some 4, .mv (.t 47), none⟩]
def f141 : RFunc := ⟨[.t 4], (.seq (.region f141r0 [0, 1]) (.seq (.seq (.region f141r1 [0, 1, 22]) (.cond (.t 22) (.seq (.region f141r2 [4]) .ret) .skip)) (.seq (.region f141r3 [4]) .ret))), false⟩

/-! (*quire/first.breaker).past -/
@[simp] def f142r0 : List ROper := [
  ⟨some 6, .mv (.c (.int .i64 (.ofNat 0))), none⟩]
@[simp] def f142r1 : List ROper := [
  ⟨some 9, .mv (.t 0), none⟩,
  ⟨some 10, .nilchk (.t 9), none⟩,
  ⟨some 11, .faddr 0 (.t 10), none⟩,
  ⟨some 12, .load 1 false (.t 11), none⟩,
  ⟨some 13, .mv (.t 1), none⟩,
  ⟨some 14, .iaddr 8 (.t 12) (.t 13), none⟩,
  ⟨some 15, .faddr 0 (.t 14), none⟩,
  ⟨some 16, .load 1 false (.t 15), none⟩]
@[simp] def f142r2 : List ROper := [
  ⟨some 18, .bin .eql (.t 16) (.c (.int .i64 (.ofNat 1))), none⟩,
  ⟨some 17, .mv (.t 18), none⟩]
@[simp] def f142r3 : List ROper := [
  ⟨some 19, .bin .eql (.t 16) (.c (.int .i64 (.ofNat 2))), none⟩,
  ⟨some 17, .mv (.t 19), none⟩]
@[simp] def f142r4 : List ROper := [
  ⟨some 20, .mv (.t 2), none⟩,
  ⟨some 21, .mv (.t 0), none⟩,
  ⟨some 22, .nilchk (.t 21), none⟩,
  ⟨some 23, .faddr 0 (.t 22), none⟩,
  ⟨some 24, .load 1 false (.t 23), none⟩,
  ⟨some 25, .mv (.t 1), none⟩,
  ⟨some 26, .iaddr 8 (.t 24) (.t 25), none⟩,
  ⟨some 27, .faddr 3 (.t 26), none⟩,
  ⟨some 28, .load 1 false (.t 27), none⟩,
  ⟨some 29, .bin .add (.t 20) (.t 28), none⟩,
  ⟨some 6, .mv (.t 29), none⟩]
@[simp] def f142r5 : List ROper := [
  ⟨some 31, .bin .eql (.t 16) (.c (.int .i64 (.ofNat 4))), none⟩,
  ⟨some 30, .mv (.t 31), none⟩]
@[simp] def f142r6 : List ROper := [
  ⟨some 33, .mv (.t 0), none⟩,
  ⟨some 34, .nilchk (.t 33), none⟩,
  ⟨some 35, .faddr 0 (.t 34), none⟩,
  ⟨some 36, .load 1 false (.t 35), none⟩,
  ⟨some 37, .mv (.t 1), none⟩,
  ⟨some 38, .mv (.t 1), none⟩,
  ⟨some 39, .bin .add (.t 38) (.c (.int .i64 (.ofNat 1))), none⟩,
  ⟨some 40, .slice false 8 (.t 36) (some (.t 37)) (some (.t 39)) none, none⟩,
  ⟨some 41, .mv (.t 2), none⟩,
  ⟨some 42, .min [(.t 41), (.c (.int .i64 (.ofNat 4095)))], none⟩,
  ⟨some 43, .call 110 [(.t 40), (.c (.int .i64 (.ofNat 0))), (.c (.int .i64 (.ofNat 1))), (.t 42)], none⟩,
  ⟨some 32, .mv (.t 43), none⟩,
  ⟨some 44, .extract (.t 32) 0, none⟩,
  ⟨some 45, .extract (.t 32) 1, none⟩,
  ⟨some 7, .mv (.t 44), none⟩,
  ⟨some 8, .mv (.t 45), none⟩]
@[simp] def f142r7 : List ROper := [
  ⟨some 46, .mv (.t 2), none⟩,
  ⟨some 47, .bin .gtr (.t 46) (.c (.int .i64 (.ofNat 4095))), none⟩]
@[simp] def f142r8 : List ROper := [
  ⟨some 48, .mv (.t 2), none⟩,
  ⟨some 49, .bin .quo (.t 48) (.c (.int .i64 (.ofNat 48))), none⟩,
  ⟨some 50, .bin .add (.t 49) (.c (.int .i64 (.ofNat 1))), none⟩,
  ⟨some 51, .bin .mul (.t 50) (.c (.int .i64 (.ofNat 48))), none⟩,
  ⟨some 6, .mv (.t 51), none⟩]
@[simp] def f142r9 : List ROper := [
  ⟨some 52, .mv (.t 2), none⟩,
  ⟨some 53, .mv (.t 7), none⟩,
  ⟨some 54, .bin .add (.t 52) (.t 53), none⟩,
  ⟨some 6, .mv (.t 54), none⟩]
@[simp] def f142r10 : List ROper := [
  ⟨some 55, .mv (.t 2), none⟩,
  ⟨some 6, .mv (.t 55), none⟩]
def f142 : RFunc := ⟨[.t 6], (.seq (.region f142r0 [0, 1, 2]) (.seq (.seq (.region f142r1 [0, 1, 2, 16]) (.block 0 (.seq (.seq (.region f142r2 [0, 1, 2, 16, 17]) (.cond (.t 17) .skip (.region f142r3 [0, 1, 2, 16, 17]))) (.cond (.t 17) (.seq (.region f142r4 [6]) .ret) (.seq (.region f142r5 [0, 1, 2, 30]) (.cond (.t 30) (.seq (.region f142r6 [2, 7]) (.seq (.seq (.region f142r7 [2, 7, 47]) (.cond (.t 47) (.seq (.region f142r8 [6]) .ret) .skip)) (.seq (.region f142r9 [6]) .ret))) .skip)))))) (.seq (.region f142r10 [6]) .ret))), false⟩

/-! quire/hyph.Plain -/
@[simp] def f143r0 : List ROper := [
  ⟨some 0, .mv (.c .nilp), none⟩]
@[simp] def f143r1 : List ROper := [
  ⟨some 4, .call 148 [(.c (.str [49, 116, 97, 32, 49, 116, 101, 32, 49, 116, 105, 32, 49, 116, 111, 32, 49, 110, 97, 32, 49, 110, 101, 32, 49, 110, 105, 32, 49, 108, 97, 32, 49, 108, 101, 32, 49, 108, 105, 32, 49, 114, 97, 32, 49, 114, 101, 32, 49, 109, 97, 32, 49, 109, 101, 32, 49, 112, 97, 32, 49, 112, 101, 32, 49, 99, 97, 32, 49, 99, 111, 32, 49, 100, 101, 32, 49, 115, 97, 32, 49, 103, 101, 32, 49, 98, 108, 32, 116, 50, 116, 101, 32, 108, 50, 108, 101, 32, 110, 50, 110, 101, 32, 114, 50, 114, 101, 32, 50, 98, 108, 101, 46, 32, 52, 108, 101, 46, 32, 46, 114, 101, 51, 97, 32, 49, 112, 104, 101]))], none⟩,
  ⟨some 5, .lit 1 false [(.str [])] 3 [(0, (.c (.str [116, 97, 45, 98, 108, 101]))), (1, (.c (.str [112, 114, 111, 45, 106, 101, 99, 116]))), (2, (.c (.str [104, 121, 45, 112, 104, 101, 110, 45, 97, 45, 116, 105, 111, 110])))], none⟩,
  ⟨some 6, .call 147 [(.t 4), (.t 5)], none⟩,
  ⟨some 3, .mv (.t 6), none⟩,
  ⟨some 7, .extract (.t 3) 0, none⟩,
  ⟨some 8, .extract (.t 3) 1, none⟩,
  ⟨some 1, .mv (.t 7), none⟩,
  ⟨some 2, .mv (.t 8), none⟩]
@[simp] def f143r2 : List ROper := [
  ⟨some 9, .mv (.t 1), none⟩,
  ⟨some 0, .mv (.t 9), none⟩]
def f143 : RFunc := ⟨[.t 0], (.seq (.region f143r0 []) (.seq (.region f143r1 [1]) (.seq (.region f143r2 [0]) .ret))), false⟩

/-! (*quire/hyph.Hyph).Points -/
@[simp] def f144r0 : List ROper := [
  ⟨some 4, .mv (.c (.list 0 0 .no false [])), none⟩,
  ⟨some 5, .mv (.c (.int .i64 (.ofNat 0))), none⟩]
@[simp] def f144r1 : List ROper := [
  ⟨some 13, .mv (.t 0), none⟩,
  ⟨some 14, .eq .ptr false (.t 13) (.c .nilp), none⟩,
  ⟨some 15, .mv (.t 14), none⟩,
  ⟨some 16, .mv (.t 0), some (15, false)⟩,
  ⟨some 17, .nilchk (.t 16), some (15, false)⟩,
  ⟨some 18, .faddr 0 (.t 17), some (15, false)⟩,
  ⟨some 19, .load 1 false (.t 18), some (15, false)⟩,
  ⟨some 20, .eq .ptr false (.t 19) (.c .nilp), some (15, false)⟩,
  ⟨some 21, .pick (.t 15) (.c (.bool true)) (.t 20), none⟩]
@[simp] def f144r2 : List ROper := [
  ⟨some 4, .mv (.c (.list 0 0 .no false [])), none⟩,
  ⟨some 5, .mv (.c (.int .i64 (.ofNat 1))), none⟩]
@[simp] def f144r3 : List ROper := [
  ⟨some 23, .mv (.t 1), none⟩,
  ⟨some 24, .call 149 [(.t 23)], none⟩,
  ⟨some 22, .mv (.t 24), none⟩,
  ⟨some 25, .extract (.t 22) 0, none⟩,
  ⟨some 26, .extract (.t 22) 1, none⟩,
  ⟨some 6, .mv (.t 25), none⟩,
  ⟨some 7, .mv (.t 26), none⟩]
@[simp] def f144r4 : List ROper := [
  ⟨some 27, .mv (.t 7), none⟩,
  ⟨some 28, .un .not (.t 27), none⟩]
@[simp] def f144r5 : List ROper := [
  ⟨some 4, .mv (.c (.list 0 0 .no false [])), none⟩,
  ⟨some 5, .mv (.c (.int .i64 (.ofNat 4))), none⟩]
@[simp] def f144r6 : List ROper := [
  ⟨some 30, .mv (.t 0), none⟩,
  ⟨some 31, .nilchk (.t 30), none⟩,
  ⟨some 32, .faddr 1 (.t 31), none⟩,
  ⟨some 33, .load 1 false (.t 32), none⟩,
  ⟨some 34, .mv (.t 6), none⟩,
  ⟨some 35, .lookup [.str] (.list 0 0 .no false []) (.t 33) (.t 34) true, none⟩,
  ⟨some 29, .mv (.t 35), none⟩,
  ⟨some 36, .extract (.t 29) 0, none⟩,
  ⟨some 37, .extract (.t 29) 1, none⟩,
  ⟨some 8, .mv (.t 36), none⟩,
  ⟨some 9, .mv (.t 37), none⟩]
@[simp] def f144r7 : List ROper := [
  ⟨some 38, .mv (.t 9), none⟩]
@[simp] def f144r8 : List ROper := [
  ⟨some 39, .mv (.t 8), none⟩,
  ⟨some 40, .call 150 [(.t 39)], none⟩,
  ⟨some 4, .mv (.t 40), none⟩,
  ⟨some 5, .mv (.c (.int .i64 (.ofNat 0))), none⟩]
@[simp] def f144r9 : List ROper := [
  ⟨some 41, .mv (.t 6), none⟩,
  ⟨some 42, .len .str (.t 41), none⟩,
  ⟨some 43, .bin .add (.t 42) (.c (.int .i64 (.ofNat 3))), none⟩,
  ⟨some 44, .mkslice 1 false 1 [(.int .u8 (.ofNat 0))] (.t 43) (.t 43), none⟩,
  ⟨some 10, .mv (.t 44), none⟩]
@[simp] def f144r10 : List ROper := [
  ⟨some 45, .mv (.t 0), none⟩,
  ⟨some 46, .mv (.t 6), none⟩,
  ⟨some 47, .bin .add (.c (.str [46])) (.t 46), none⟩,
  ⟨some 48, .bin .add (.t 47) (.c (.str [46])), none⟩,
  ⟨some 49, .mv (.t 10), none⟩,
  ⟨some 50, .mkfn 152 [(.t 49)] [], none⟩,
  ⟨some 51, .call 151 [(.t 45), (.t 48), (.t 50)], none⟩]
@[simp] def f144r11 : List ROper := [
  ⟨some 11, .mv (.c (.list 0 0 .no false [])), none⟩]
@[simp] def f144r12 : List ROper := [
  ⟨some 12, .mv (.c (.int .i64 (.ofNat 2))), none⟩]
@[simp] def f144r13 : List ROper := [
  ⟨some 52, .mv (.t 12), none⟩,
  ⟨some 53, .mv (.t 6), none⟩,
  ⟨some 54, .len .str (.t 53), none⟩,
  ⟨some 55, .bin .sub (.t 54) (.c (.int .i64 (.ofNat 3))), none⟩,
  ⟨some 56, .bin .leq (.t 52) (.t 55), none⟩]
@[simp] def f144r14 : List ROper := [
  ⟨some 59, .mv (.t 10), none⟩,
  ⟨some 60, .mv (.t 12), none⟩,
  ⟨some 61, .bin .add (.t 60) (.c (.int .i64 (.ofNat 1))), none⟩,
  ⟨some 62, .iaddr 1 (.t 59) (.t 61), none⟩,
  ⟨some 63, .load 1 false (.t 62), none⟩,
  ⟨some 64, .bin .rem (.t 63) (.c (.int .u8 (.ofNat 2))), none⟩,
  ⟨some 65, .bin .eql (.t 64) (.c (.int .u8 (.ofNat 1))), none⟩]
@[simp] def f144r15 : List ROper := [
  ⟨some 66, .mv (.t 11), none⟩,
  ⟨some 67, .mv (.t 12), none⟩,
  ⟨some 68, .lit 1 false [(.int .i64 (.ofNat 0))] 1 [(0, (.t 67))], none⟩,
  ⟨some 69, .append 1 false 8 (.t 66) (.t 68), none⟩,
  ⟨some 11, .mv (.t 69), none⟩]
@[simp] def f144r16 : List ROper := [
  ⟨some 57, .mv (.t 12), none⟩,
  ⟨some 58, .bin .add (.t 57) (.c (.int .i64 (.ofNat 1))), none⟩,
  ⟨some 12, .mv (.t 58), none⟩]
def f144B0 : RC := (.seq (.seq (.region f144r13 [6, 10, 11, 12, 56]) (.cond (.t 56) .skip (.exit 0))) (.seq (.block 1 (.seq (.region f144r14 [6, 10, 11, 12, 65]) (.cond (.t 65) (.region f144r15 [6, 10, 11, 12]) .skip))) (.region f144r16 [6, 10, 11, 12])))
def f144L0 : RC := .loop [6, 10, 11, 12] f144B0
@[simp] def f144r17 : List ROper := [
  ⟨some 70, .mv (.t 11), none⟩,
  ⟨some 4, .mv (.t 70), none⟩,
  ⟨some 5, .mv (.c (.int .i64 (.ofNat 0))), none⟩]
def f144 : RFunc := ⟨[.t 4, .t 5], (.seq (.region f144r0 [0, 1]) (.seq (.seq (.region f144r1 [0, 1, 21]) (.cond (.t 21) (.seq (.region f144r2 [4, 5]) .ret) .skip)) (.seq (.region f144r3 [0, 6, 7]) (.seq (.seq (.region f144r4 [0, 6, 28]) (.cond (.t 28) (.seq (.region f144r5 [4, 5]) .ret) .skip)) (.seq (.seq (.region f144r6 [0, 6, 8, 9]) (.seq (.region f144r7 [0, 6, 8, 38]) (.cond (.t 38) (.seq (.region f144r8 [4, 5]) .ret) .skip))) (.seq (.region f144r9 [0, 6, 10]) (.seq (.region f144r10 [6, 10]) (.seq (.region f144r11 [6, 10, 11]) (.seq (.seq (.region f144r12 [6, 10, 11, 12]) (.block 0 f144L0)) (.seq (.region f144r17 [4, 5]) .ret)))))))))), false⟩

/-! quire/tab.Check -/
@[simp] def f145r0 : List ROper := [
  ⟨some 2, .mv (.c (.int .i64 (.ofNat 0))), none⟩]
@[simp] def f145r1 : List ROper := [
  ⟨some 6, .mv (.t 0), none⟩,
  ⟨some 7, .len .slice (.t 6), none⟩,
  ⟨some 8, .bin .gtr (.t 7) (.c (.int .i64 (.ofNat 16))), none⟩]
@[simp] def f145r2 : List ROper := [
  ⟨some 2, .mv (.c (.int .i64 (.ofNat 2))), none⟩]
@[simp] def f145r3 : List ROper := [
  ⟨some 3, .mv (.c (.int .i64 (.ofNat 0))), none⟩]
@[simp] def f145r4 : List ROper := [
  ⟨some 9, .mv (.t 0), none⟩,
  ⟨some 10, .len .slice (.t 9), none⟩,
  ⟨some 11, .mv (.c (.int .i64 (.ofNat 0))), none⟩]
@[simp] def f145r5 : List ROper := [
  ⟨some 12, .bin .lss (.t 11) (.t 10), none⟩]
@[simp] def f145r6 : List ROper := [
  ⟨some 13, .iaddr 2 (.t 9) (.t 11), none⟩,
  ⟨some 14, .load 2 true (.t 13), none⟩,
  ⟨some 5, .alloc [(.int .i64 (.ofNat 0)), (.int .i64 (.ofNat 0))], none⟩,
  ⟨none, .store 2 (.t 5) (.t 14), none⟩]
@[simp] def f145r7 : List ROper := [
  ⟨some 15, .faddr 0 (.t 5), none⟩,
  ⟨some 16, .load 1 false (.t 15), none⟩,
  ⟨some 17, .mv (.t 3), none⟩,
  ⟨some 18, .bin .leq (.t 16) (.t 17), none⟩,
  ⟨some 19, .mv (.t 18), none⟩,
  ⟨some 20, .faddr 0 (.t 5), some (19, false)⟩,
  ⟨some 21, .load 1 false (.t 20), some (19, false)⟩,
  ⟨some 22, .bin .gtr (.t 21) (.c (.int .i64 (.ofNat 4095))), some (19, false)⟩,
  ⟨some 23, .pick (.t 19) (.c (.bool true)) (.t 22), none⟩,
  ⟨some 24, .mv (.t 23), none⟩,
  ⟨some 25, .faddr 1 (.t 5), some (24, false)⟩,
  ⟨some 26, .load 1 false (.t 25), some (24, false)⟩,
  ⟨some 27, .bin .neq (.t 26) (.c (.int .i64 (.ofNat 0))), some (24, false)⟩,
  ⟨some 28, .mv (.t 27), some (24, false)⟩,
  ⟨some 29, .faddr 1 (.t 5), some (28, true)⟩,
  ⟨some 30, .load 1 false (.t 29), some (28, true)⟩,
  ⟨some 31, .bin .neq (.t 30) (.c (.int .i64 (.ofNat 2))), some (28, true)⟩,
  ⟨some 32, .pick (.t 28) (.t 31) (.c (.bool false)), some (24, false)⟩,
  ⟨some 33, .mv (.t 32), some (24, false)⟩,
  ⟨some 34, .faddr 1 (.t 5), some (33, true)⟩,
  ⟨some 35, .load 1 false (.t 34), some (33, true)⟩,
  ⟨some 36, .bin .neq (.t 35) (.c (.int .i64 (.ofNat 3))), some (33, true)⟩,
  ⟨some 37, .pick (.t 33) (.t 36) (.c (.bool false)), some (24, false)⟩,
  ⟨some 38, .pick (.t 24) (.c (.bool true)) (.t 37), none⟩]
@[simp] def f145r8 : List ROper := [
  ⟨some 2, .mv (.c (.int .i64 (.ofNat 2))), none⟩]
@[simp] def f145r9 : List ROper := [
  ⟨some 39, .faddr 0 (.t 5), none⟩,
  ⟨some 40, .load 1 false (.t 39), none⟩,
  ⟨some 3, .mv (.t 40), none⟩]
@[simp] def f145r10 : List ROper := [
  ⟨some 41, .bin .add (.t 11) (.c (.int .i64 (.ofNat 1))), none⟩,
  ⟨some 11, .mv (.t 41), none⟩]
def f145B0 : RC := (.seq (.region f145r5 [3, 9, 10, 11, 12]) (.seq (.cond (.t 12) .skip (.exit 0)) (.seq (.block 1 (.seq (.region f145r6 [3, 5, 9, 10, 11]) (.seq (.seq (.region f145r7 [5, 9, 10, 11, 38]) (.cond (.t 38) (.seq (.region f145r8 [2]) .ret) .skip)) (.region f145r9 [3, 9, 10, 11])))) (.region f145r10 [3, 9, 10, 11]))))
def f145L0 : RC := .loop [3, 9, 10, 11] f145B0
@[simp] def f145r11 : List ROper := [
  ⟨some 2, .mv (.c (.int .i64 (.ofNat 0))), none⟩]
def f145 : RFunc := ⟨[.t 2], (.seq (.region f145r0 [0]) (.seq (.seq (.region f145r1 [0, 8]) (.cond (.t 8) (.seq (.region f145r2 [2]) .ret) .skip)) (.seq (.region f145r3 [0, 3]) (.seq (.seq (.region f145r4 [3, 9, 10, 11]) (.block 0 f145L0)) (.seq (.region f145r11 [2]) .ret))))), true⟩

/-! quire/tab.behind -/
@[simp] def f146r0 : List ROper := [
  ⟨some 4, .alloc [(.int .i64 (.ofNat 0)), (.int .i64 (.ofNat 0))], none⟩]
@[simp] def f146r1 : List ROper := [
  ⟨some 8, .mv (.t 0), none⟩,
  ⟨some 9, .mv (.t 1), none⟩,
  ⟨some 10, .bin .add (.t 9) (.c (.int .i64 (.ofNat 1))), none⟩,
  ⟨some 11, .call 153 [(.t 8), (.t 10), (.f 154)], none⟩,
  ⟨some 7, .mv (.t 11), none⟩,
  ⟨some 12, .extract (.t 7) 0, none⟩,
  ⟨some 13, .extract (.t 7) 1, none⟩,
  ⟨some 5, .mv (.t 12), none⟩,
  ⟨some 6, .mv (.t 13), none⟩]
@[simp] def f146r2 : List ROper := [
  ⟨some 14, .mv (.t 5), none⟩,
  ⟨some 15, .mv (.t 0), none⟩,
  ⟨some 16, .len .slice (.t 15), none⟩,
  ⟨some 17, .bin .lss (.t 14) (.t 16), none⟩]
@[simp] def f146r3 : List ROper := [
  ⟨some 18, .mv (.t 0), none⟩,
  ⟨some 19, .mv (.t 5), none⟩,
  ⟨some 20, .iaddr 2 (.t 18) (.t 19), none⟩,
  ⟨some 21, .load 2 true (.t 20), none⟩,
  ⟨none, .store 2 (.t 4) (.t 21), none⟩]
@[simp] def f146r4 : List ROper := [
  ⟨some 22, .mv (.t 1), none⟩,
  ⟨some 23, .bin .quo (.t 22) (.c (.int .i64 (.ofNat 48))), none⟩,
  ⟨some 24, .bin .add (.t 23) (.c (.int .i64 (.ofNat 1))), none⟩,
  ⟨some 25, .bin .mul (.t 24) (.c (.int .i64 (.ofNat 48))), none⟩,
  ⟨some 26, .build [(.int .i64 (.ofNat 0)), (.int .i64 (.ofNat 0))] [(0, 1, (.t 25))], none⟩,
  ⟨none, .store 2 (.t 4) (.t 26), none⟩]
def f146 : RFunc := ⟨[.cell 4 2 true], (.seq (.region f146r0 [0, 1, 4]) (.seq (.region f146r1 [0, 1, 4, 5]) (.seq (.seq (.region f146r2 [0, 1, 4, 5, 17]) (.cond (.t 17) (.seq (.region f146r3 [4]) .ret) .skip)) (.seq (.region f146r4 [4]) .ret)))), true⟩

/-! quire/hyph.New -/
@[simp] def f147r0 : List ROper := [
  ⟨some 4, .mv (.c .nilp), none⟩,
  ⟨some 5, .mv (.c (.int .i64 (.ofNat 0))), none⟩]
@[simp] def f147r1 : List ROper := [
  ⟨some 20, .mv (.t 0), none⟩,
  ⟨some 21, .len .slice (.t 20), none⟩,
  ⟨some 22, .bin .gtr (.t 21) (.c (.int .i64 (.ofNat 256))), none⟩,
  ⟨some 23, .mv (.t 22), none⟩,
  ⟨some 24, .mv (.t 1), some (23, false)⟩,
  ⟨some 25, .len .slice (.t 24), some (23, false)⟩,
  ⟨some 26, .bin .gtr (.t 25) (.c (.int .i64 (.ofNat 64))), some (23, false)⟩,
  ⟨some 27, .pick (.t 23) (.c (.bool true)) (.t 26), none⟩]
@[simp] def f147r2 : List ROper := [
  ⟨some 4, .mv (.c .nilp), none⟩,
  ⟨some 5, .mv (.c (.int .i64 (.ofNat 3))), none⟩]
@[simp] def f147r3 : List ROper := [
  ⟨some 28, .build [.nilmap, (.list 0 0 .no false [])] [], none⟩,
  ⟨some 29, .box 2 (.t 28), none⟩,
  ⟨some 30, .mkmap, none⟩,
  ⟨some 31, .build [.nilp, .nilmap] [(0, 1, (.t 29)), (1, 1, (.t 30))], none⟩,
  ⟨some 32, .box 2 (.t 31), none⟩,
  ⟨some 6, .mv (.t 32), none⟩]
@[simp] def f147r4 : List ROper := [
  ⟨some 33, .mv (.t 0), none⟩,
  ⟨some 34, .len .slice (.t 33), none⟩,
  ⟨some 35, .mv (.c (.int .i64 (.ofNat 0))), none⟩]
@[simp] def f147r5 : List ROper := [
  ⟨some 36, .bin .lss (.t 35) (.t 34), none⟩]
@[simp] def f147r6 : List ROper := [
  ⟨some 37, .iaddr 1 (.t 33) (.t 35), none⟩,
  ⟨some 38, .load 1 false (.t 37), none⟩,
  ⟨some 8, .mv (.t 38), none⟩]
@[simp] def f147r7 : List ROper := [
  ⟨some 40, .mv (.t 8), none⟩,
  ⟨some 41, .call 156 [(.t 40)], none⟩,
  ⟨some 39, .mv (.t 41), none⟩,
  ⟨some 42, .extract (.t 39) 0, none⟩,
  ⟨some 43, .extract (.t 39) 1, none⟩,
  ⟨some 44, .extract (.t 39) 2, none⟩,
  ⟨some 9, .mv (.t 42), none⟩,
  ⟨some 10, .mv (.t 43), none⟩,
  ⟨some 11, .mv (.t 44), none⟩]
@[simp] def f147r8 : List ROper := [
  ⟨some 45, .mv (.t 11), none⟩,
  ⟨some 46, .un .not (.t 45), none⟩]
@[simp] def f147r9 : List ROper := [
  ⟨some 4, .mv (.c .nilp), none⟩,
  ⟨some 5, .mv (.c (.int .i64 (.ofNat 4))), none⟩]
@[simp] def f147r10 : List ROper := [
  ⟨some 47, .mv (.t 6), none⟩,
  ⟨some 48, .nilchk (.t 47), none⟩,
  ⟨some 49, .faddr 0 (.t 48), none⟩,
  ⟨some 50, .load 1 false (.t 49), none⟩,
  ⟨some 51, .mv (.t 9), none⟩,
  ⟨some 52, .mv (.t 10), none⟩,
  ⟨some 53, .call 157 [(.t 50), (.t 51), (.t 52)], none⟩]
@[simp] def f147r11 : List ROper := [
  ⟨some 54, .bin .add (.t 35) (.c (.int .i64 (.ofNat 1))), none⟩,
  ⟨some 35, .mv (.t 54), none⟩]
def f147B0 : RC := (.seq (.region f147r5 [1, 6, 33, 34, 35, 36]) (.seq (.cond (.t 36) .skip (.exit 0)) (.seq (.block 1 (.seq (.region f147r6 [1, 6, 8, 33, 34, 35]) (.seq (.region f147r7 [1, 6, 9, 10, 11, 33, 34, 35]) (.seq (.seq (.region f147r8 [1, 6, 9, 10, 33, 34, 35, 46]) (.cond (.t 46) (.seq (.region f147r9 [4, 5]) .ret) .skip)) (.region f147r10 [1, 6, 33, 34, 35]))))) (.region f147r11 [1, 6, 33, 34, 35]))))
def f147L0 : RC := .loop [1, 6, 33, 34, 35] f147B0
@[simp] def f147r12 : List ROper := [
  ⟨some 12, .mv (.c (.bool false)), none⟩]
@[simp] def f147r13 : List ROper := [
  ⟨some 55, .mv (.t 1), none⟩,
  ⟨some 56, .len .slice (.t 55), none⟩,
  ⟨some 57, .mv (.c (.int .i64 (.ofNat 0))), none⟩]
@[simp] def f147r14 : List ROper := [
  ⟨some 58, .bin .lss (.t 57) (.t 56), none⟩]
@[simp] def f147r15 : List ROper := [
  ⟨some 59, .iaddr 1 (.t 55) (.t 57), none⟩,
  ⟨some 60, .load 1 false (.t 59), none⟩,
  ⟨some 14, .mv (.t 60), none⟩]
@[simp] def f147r16 : List ROper := [
  ⟨some 62, .mv (.t 14), none⟩,
  ⟨some 63, .call 158 [(.t 62)], none⟩,
  ⟨some 61, .mv (.t 63), none⟩,
  ⟨some 64, .extract (.t 61) 0, none⟩,
  ⟨some 65, .extract (.t 61) 1, none⟩,
  ⟨some 66, .extract (.t 61) 2, none⟩,
  ⟨some 15, .mv (.t 64), none⟩,
  ⟨some 16, .mv (.t 65), none⟩,
  ⟨some 17, .mv (.t 66), none⟩]
@[simp] def f147r17 : List ROper := [
  ⟨some 67, .mv (.t 17), none⟩,
  ⟨some 68, .un .not (.t 67), none⟩]
@[simp] def f147r18 : List ROper := [
  ⟨some 4, .mv (.c .nilp), none⟩,
  ⟨some 5, .mv (.c (.int .i64 (.ofNat 4))), none⟩]
@[simp] def f147r19 : List ROper := [
  ⟨some 70, .mv (.t 6), none⟩,
  ⟨some 71, .nilchk (.t 70), none⟩,
  ⟨some 72, .faddr 1 (.t 71), none⟩,
  ⟨some 73, .load 1 false (.t 72), none⟩,
  ⟨some 74, .mv (.t 15), none⟩,
  ⟨some 75, .lookup [.str] (.list 0 0 .no false []) (.t 73) (.t 74) true, none⟩,
  ⟨some 69, .mv (.t 75), none⟩,
  ⟨some 76, .extract (.t 69) 0, none⟩,
  ⟨some 77, .extract (.t 69) 1, none⟩,
  ⟨some 18, .mv (.t 76), none⟩,
  ⟨some 19, .mv (.t 77), none⟩]
@[simp] def f147r20 : List ROper := [
  ⟨some 78, .mv (.t 12), none⟩,
  ⟨some 79, .mv (.t 78), none⟩,
  ⟨some 80, .mv (.t 19), some (79, false)⟩,
  ⟨some 81, .pick (.t 79) (.c (.bool true)) (.t 80), none⟩,
  ⟨some 12, .mv (.t 81), none⟩]
@[simp] def f147r21 : List ROper := [
  ⟨some 82, .mv (.t 6), none⟩,
  ⟨some 83, .nilchk (.t 82), none⟩,
  ⟨some 84, .faddr 1 (.t 83), none⟩,
  ⟨some 85, .load 1 false (.t 84), none⟩,
  ⟨some 86, .mv (.t 15), none⟩,
  ⟨some 87, .mv (.t 16), none⟩,
  ⟨none, .mapset [.str] (.t 85) (.t 86) (.t 87), none⟩]
@[simp] def f147r22 : List ROper := [
  ⟨some 88, .bin .add (.t 57) (.c (.int .i64 (.ofNat 1))), none⟩,
  ⟨some 57, .mv (.t 88), none⟩]
def f147B1 : RC := (.seq (.region f147r14 [6, 12, 55, 56, 57, 58]) (.seq (.cond (.t 58) .skip (.exit 2)) (.seq (.block 3 (.seq (.region f147r15 [6, 12, 14, 55, 56, 57]) (.seq (.region f147r16 [6, 12, 15, 16, 17, 55, 56, 57]) (.seq (.seq (.region f147r17 [6, 12, 15, 16, 55, 56, 57, 68]) (.cond (.t 68) (.seq (.region f147r18 [4, 5]) .ret) .skip)) (.seq (.region f147r19 [6, 12, 15, 16, 19, 55, 56, 57]) (.seq (.region f147r20 [6, 12, 15, 16, 55, 56, 57]) (.region f147r21 [6, 12, 55, 56, 57]))))))) (.region f147r22 [6, 12, 55, 56, 57]))))
def f147L1 : RC := .loop [6, 12, 55, 56, 57] f147B1
@[simp] def f147r23 : List ROper := [
  ⟨some 89, .mv (.t 12), none⟩]
@[simp] def f147r24 : List ROper := [
  ⟨some 4, .mv (.c .nilp), none⟩,
  ⟨some 5, .mv (.c (.int .i64 (.ofNat 7))), none⟩]
@[simp] def f147r25 : List ROper := [
  ⟨some 90, .mv (.t 6), none⟩,
  ⟨some 4, .mv (.t 90), none⟩,
  ⟨some 5, .mv (.c (.int .i64 (.ofNat 0))), none⟩]
def f147 : RFunc := ⟨[.t 4, .t 5], (.seq (.region f147r0 [0, 1]) (.seq (.seq (.region f147r1 [0, 1, 27]) (.cond (.t 27) (.seq (.region f147r2 [4, 5]) .ret) .skip)) (.seq (.region f147r3 [0, 1, 6]) (.seq (.seq (.region f147r4 [1, 6, 33, 34, 35]) (.block 0 f147L0)) (.seq (.region f147r12 [1, 6, 12]) (.seq (.seq (.region f147r13 [6, 12, 55, 56, 57]) (.block 2 f147L1)) (.seq (.seq (.region f147r23 [6, 89]) (.cond (.t 89) (.seq (.region f147r24 [4, 5]) .ret) .skip)) (.seq (.region f147r25 [4, 5]) .ret)))))))), false⟩

/-! strings.Fields -/
@[simp] def f148r0 : List ROper := [
  ⟨some 2, .mv (.c (.list 0 0 .no false [])), none⟩]
@[simp] def f148r1 : List ROper := [
  ⟨some 3, .mv (.c (.int .i64 (.ofNat 0))), none⟩]
@[simp] def f148r2 : List ROper := [
  ⟨some 4, .mv (.c (.int .i64 (.ofNat 1))), none⟩]
@[simp] def f148r3 : List ROper := [
  ⟨some 5, .mv (.c (.int .u8 (.ofNat 0))), none⟩]
@[simp] def f148r4 : List ROper := [
  ⟨some 6, .mv (.c (.int .i64 (.ofNat 0))), none⟩]
@[simp] def f148r5 : List ROper := [
  ⟨some 13, .mv (.t 6), none⟩,
  ⟨some 14, .mv (.t 0), none⟩,
  ⟨some 15, .len .str (.t 14), none⟩,
  ⟨some 16, .bin .lss (.t 13) (.t 15), none⟩]
@[simp] def f148r6 : List ROper := [
  ⟨some 19, .mv (.t 0), none⟩,
  ⟨some 20, .mv (.t 6), none⟩,
  ⟨some 21, .index (.t 19) (.t 20), none⟩,
  ⟨some 7, .mv (.t 21), none⟩]
@[simp] def f148r7 : List ROper := [
  ⟨some 22, .mv (.t 5), none⟩,
  ⟨some 23, .mv (.t 7), none⟩,
  ⟨some 24, .bin .or (.t 22) (.t 23), none⟩,
  ⟨some 5, .mv (.t 24), none⟩]
@[simp] def f148r8 : List ROper := [
  ⟨some 25, .mv (.t 7), none⟩,
  ⟨some 26, .iaddrA 1 256 (.c asciiSpaceD) (.t 25), none⟩,
  ⟨some 27, .load 1 false (.t 26), none⟩,
  ⟨some 28, .i2i .i64 (.t 27), none⟩,
  ⟨some 8, .mv (.t 28), none⟩]
@[simp] def f148r9 : List ROper := [
  ⟨some 29, .mv (.t 3), none⟩,
  ⟨some 30, .mv (.t 4), none⟩,
  ⟨some 31, .mv (.t 8), none⟩,
  ⟨some 32, .un .xor (.t 31), none⟩,
  ⟨some 33, .bin .and (.t 30) (.t 32), none⟩,
  ⟨some 34, .bin .add (.t 29) (.t 33), none⟩,
  ⟨some 3, .mv (.t 34), none⟩]
@[simp] def f148r10 : List ROper := [
  ⟨some 35, .mv (.t 8), none⟩,
  ⟨some 4, .mv (.t 35), none⟩]
@[simp] def f148r11 : List ROper := [
  ⟨some 17, .mv (.t 6), none⟩,
  ⟨some 18, .bin .add (.t 17) (.c (.int .i64 (.ofNat 1))), none⟩,
  ⟨some 6, .mv (.t 18), none⟩]
def f148B0 : RC := (.seq (.seq (.region f148r5 [0, 3, 4, 5, 6, 16]) (.cond (.t 16) .skip (.exit 0))) (.seq (.block 1 (.seq (.region f148r6 [0, 3, 4, 5, 6, 7]) (.seq (.region f148r7 [0, 3, 4, 5, 6, 7]) (.seq (.region f148r8 [0, 3, 4, 5, 6, 8]) (.seq (.region f148r9 [0, 3, 5, 6, 8]) (.region f148r10 [0, 3, 4, 5, 6])))))) (.region f148r11 [0, 3, 4, 5, 6])))
def f148L0 : RC := .loop [0, 3, 4, 5, 6] f148B0
@[simp] def f148r12 : List ROper := [
  ⟨some 36, .mv (.t 5), none⟩,
  ⟨some 37, .bin .geq (.t 36) (.c (.int .u8 (.ofNat 128))), none⟩]
@[simp] def f148r13 : List ROper := [
  ⟨some 38, .mv (.t 0), none⟩,
  ⟨some 39, .call 159 [(.t 38), (.f 160)], none⟩,
  ⟨some 2, .mv (.t 39), none⟩]
@[simp] def f148r14 : List ROper := [
  ⟨some 40, .mv (.t 3), none⟩,
  ⟨some 41, .mkslice 1 false 16 [(.str [])] (.t 40) (.t 40), none⟩,
  ⟨some 9, .mv (.t 41), none⟩]
@[simp] def f148r15 : List ROper := [
  ⟨some 10, .mv (.c (.int .i64 (.ofNat 0))), none⟩]
@[simp] def f148r16 : List ROper := [
  ⟨some 11, .mv (.c (.int .i64 (.ofNat 0))), none⟩]
@[simp] def f148r17 : List ROper := [
  ⟨some 12, .mv (.c (.int .i64 (.ofNat 0))), none⟩]
@[simp] def f148r18 : List ROper := [
  ⟨some 42, .mv (.t 12), none⟩,
  ⟨some 43, .mv (.t 0), none⟩,
  ⟨some 44, .len .str (.t 43), none⟩,
  ⟨some 45, .bin .lss (.t 42) (.t 44), none⟩,
  ⟨some 46, .mv (.t 45), none⟩,
  ⟨some 47, .mv (.t 0), some (46, true)⟩,
  ⟨some 48, .mv (.t 12), some (46, true)⟩,
  ⟨some 49, .index (.t 47) (.t 48), some (46, true)⟩,
  ⟨some 50, .iaddrA 1 256 (.c asciiSpaceD) (.t 49), some (46, true)⟩,
  ⟨some 51, .load 1 false (.t 50), some (46, true)⟩,
  ⟨some 52, .bin .neq (.t 51) (.c (.int .u8 (.ofNat 0))), some (46, true)⟩,
  ⟨some 53, .pick (.t 46) (.t 52) (.c (.bool false)), none⟩]
@[simp] def f148r19 : List ROper := [
  ⟨some 54, .mv (.t 12), none⟩,
  ⟨some 55, .bin .add (.t 54) (.c (.int .i64 (.ofNat 1))), none⟩,
  ⟨some 12, .mv (.t 55), none⟩]
def f148B1 : RC := (.seq (.seq (.region f148r18 [0, 9, 10, 12, 53]) (.cond (.t 53) .skip (.exit 2))) (.block 3 (.region f148r19 [0, 9, 10, 12])))
def f148L1 : RC := .loop [0, 9, 10, 12] f148B1
@[simp] def f148r20 : List ROper := [
  ⟨some 56, .mv (.t 12), none⟩,
  ⟨some 11, .mv (.t 56), none⟩]
@[simp] def f148r21 : List ROper := [
  ⟨some 57, .mv (.t 12), none⟩,
  ⟨some 58, .mv (.t 0), none⟩,
  ⟨some 59, .len .str (.t 58), none⟩,
  ⟨some 60, .bin .lss (.t 57) (.t 59), none⟩]
@[simp] def f148r22 : List ROper := [
  ⟨some 61, .mv (.t 0), none⟩,
  ⟨some 62, .mv (.t 12), none⟩,
  ⟨some 63, .index (.t 61) (.t 62), none⟩,
  ⟨some 64, .iaddrA 1 256 (.c asciiSpaceD) (.t 63), none⟩,
  ⟨some 65, .load 1 false (.t 64), none⟩,
  ⟨some 66, .bin .eql (.t 65) (.c (.int .u8 (.ofNat 0))), none⟩]
@[simp] def f148r23 : List ROper := [
  ⟨some 67, .mv (.t 12), none⟩,
  ⟨some 68, .bin .add (.t 67) (.c (.int .i64 (.ofNat 1))), none⟩,
  ⟨some 12, .mv (.t 68), none⟩]
@[simp] def f148r24 : List ROper := [
  ⟨some 69, .mv (.t 9), none⟩,
  ⟨some 70, .mv (.t 10), none⟩,
  ⟨some 71, .mv (.t 0), none⟩,
  ⟨some 72, .mv (.t 11), none⟩,
  ⟨some 73, .mv (.t 12), none⟩,
  ⟨some 74, .slice true 1 (.t 71) (some (.t 72)) (some (.t 73)) none, none⟩,
  ⟨some 75, .iaddr 1 (.t 69) (.t 70), none⟩,
  ⟨none, .store 1 (.t 75) (.t 74), none⟩]
@[simp] def f148r25 : List ROper := [
  ⟨some 76, .mv (.t 10), none⟩,
  ⟨some 77, .bin .add (.t 76) (.c (.int .i64 (.ofNat 1))), none⟩,
  ⟨some 10, .mv (.t 77), none⟩]
@[simp] def f148r26 : List ROper := [
  ⟨some 78, .mv (.t 12), none⟩,
  ⟨some 79, .bin .add (.t 78) (.c (.int .i64 (.ofNat 1))), none⟩,
  ⟨some 12, .mv (.t 79), none⟩]
@[simp] def f148r27 : List ROper := [
  ⟨some 80, .mv (.t 12), none⟩,
  ⟨some 81, .mv (.t 0), none⟩,
  ⟨some 82, .len .str (.t 81), none⟩,
  ⟨some 83, .bin .lss (.t 80) (.t 82), none⟩,
  ⟨some 84, .mv (.t 83), none⟩,
  ⟨some 85, .mv (.t 0), some (84, true)⟩,
  ⟨some 86, .mv (.t 12), some (84, true)⟩,
  ⟨some 87, .index (.t 85) (.t 86), some (84, true)⟩,
  ⟨some 88, .iaddrA 1 256 (.c asciiSpaceD) (.t 87), some (84, true)⟩,
  ⟨some 89, .load 1 false (.t 88), some (84, true)⟩,
  ⟨some 90, .bin .neq (.t 89) (.c (.int .u8 (.ofNat 0))), some (84, true)⟩,
  ⟨some 91, .pick (.t 84) (.t 90) (.c (.bool false)), none⟩]
@[simp] def f148r28 : List ROper := [
  ⟨some 92, .mv (.t 12), none⟩,
  ⟨some 93, .bin .add (.t 92) (.c (.int .i64 (.ofNat 1))), none⟩,
  ⟨some 12, .mv (.t 93), none⟩]
def f148B2 : RC := (.seq (.seq (.region f148r27 [0, 9, 10, 12, 91]) (.cond (.t 91) .skip (.exit 6))) (.block 7 (.region f148r28 [0, 9, 10, 12])))
def f148L2 : RC := .loop [0, 9, 10, 12] f148B2
@[simp] def f148r29 : List ROper := [
  ⟨some 94, .mv (.t 12), none⟩,
  ⟨some 11, .mv (.t 94), none⟩]
def f148B3 : RC := (.seq (.seq (.region f148r21 [0, 9, 10, 11, 12, 60]) (.cond (.t 60) .skip (.exit 4))) (.block 5 (.seq (.seq (.region f148r22 [0, 9, 10, 11, 12, 66]) (.cond (.t 66) (.seq (.region f148r23 [0, 9, 10, 11, 12]) (.exit 5)) .skip)) (.seq (.region f148r24 [0, 9, 10, 12]) (.seq (.region f148r25 [0, 9, 10, 12]) (.seq (.region f148r26 [0, 9, 10, 12]) (.seq (.block 6 f148L2) (.region f148r29 [0, 9, 10, 11, 12]))))))))
def f148L3 : RC := .loop [0, 9, 10, 11, 12] f148B3
@[simp] def f148r30 : List ROper := [
  ⟨some 95, .mv (.t 11), none⟩,
  ⟨some 96, .mv (.t 0), none⟩,
  ⟨some 97, .len .str (.t 96), none⟩,
  ⟨some 98, .bin .lss (.t 95) (.t 97), none⟩]
@[simp] def f148r31 : List ROper := [
  ⟨some 99, .mv (.t 9), none⟩,
  ⟨some 100, .mv (.t 10), none⟩,
  ⟨some 101, .mv (.t 0), none⟩,
  ⟨some 102, .mv (.t 11), none⟩,
  ⟨some 103, .slice true 1 (.t 101) (some (.t 102)) none none, none⟩,
  ⟨some 104, .iaddr 1 (.t 99) (.t 100), none⟩,
  ⟨none, .store 1 (.t 104) (.t 103), none⟩]
@[simp] def f148r32 : List ROper := [
  ⟨some 105, .mv (.t 9), none⟩,
  ⟨some 2, .mv (.t 105), none⟩]
def f148 : RFunc := ⟨[.t 2], (.seq (.region f148r0 [0]) (.seq (.region f148r1 [0, 3]) (.seq (.region f148r2 [0, 3, 4]) (.seq (.region f148r3 [0, 3, 4, 5]) (.seq (.seq (.region f148r4 [0, 3, 4, 5, 6]) (.block 0 f148L0)) (.seq (.seq (.region f148r12 [0, 3, 37]) (.cond (.t 37) (.seq (.region f148r13 [2]) .ret) .skip)) (.seq (.region f148r14 [0, 9]) (.seq (.region f148r15 [0, 9, 10]) (.seq (.region f148r16 [0, 9, 10]) (.seq (.region f148r17 [0, 9, 10, 12]) (.seq (.block 2 f148L1) (.seq (.region f148r20 [0, 9, 10, 11, 12]) (.seq (.block 4 f148L3) (.seq (.seq (.region f148r30 [0, 9, 10, 11, 98]) (.cond (.t 98) (.region f148r31 [9]) .skip)) (.seq (.region f148r32 [2]) .ret))))))))))))))), true⟩

/-! quire/hyph.word -/
@[simp] def f149r0 : List ROper := [
  ⟨some 2, .mv (.c (.str [])), none⟩,
  ⟨some 3, .mv (.c (.bool false)), none⟩]
@[simp] def f149r1 : List ROper := [
  ⟨some 7, .mv (.t 0), none⟩,
  ⟨some 8, .len .str (.t 7), none⟩,
  ⟨some 9, .bin .lss (.t 8) (.c (.int .i64 (.ofNat 1))), none⟩,
  ⟨some 10, .mv (.t 9), none⟩,
  ⟨some 11, .mv (.t 0), some (10, false)⟩,
  ⟨some 12, .len .str (.t 11), some (10, false)⟩,
  ⟨some 13, .bin .gtr (.t 12) (.c (.int .i64 (.ofNat 64))), some (10, false)⟩,
  ⟨some 14, .pick (.t 10) (.c (.bool true)) (.t 13), none⟩]
@[simp] def f149r2 : List ROper := [
  ⟨some 2, .mv (.c (.str [])), none⟩,
  ⟨some 3, .mv (.c (.bool false)), none⟩]
@[simp] def f149r3 : List ROper := [
  ⟨some 15, .mv (.t 0), none⟩,
  ⟨some 16, .s2h (.t 15), none⟩,
  ⟨some 4, .mv (.t 16), none⟩]
@[simp] def f149r4 : List ROper := [
  ⟨some 17, .mv (.t 4), none⟩,
  ⟨some 18, .len .slice (.t 17), none⟩,
  ⟨some 19, .mv (.c (.int .i64 (.ofNat 0))), none⟩]
@[simp] def f149r5 : List ROper := [
  ⟨some 20, .bin .lss (.t 19) (.t 18), none⟩]
@[simp] def f149r6 : List ROper := [
  ⟨some 21, .mv (.t 19), none⟩,
  ⟨some 22, .iaddr 1 (.t 17) (.t 19), none⟩,
  ⟨some 23, .load 1 false (.t 22), none⟩,
  ⟨some 5, .mv (.t 21), none⟩,
  ⟨some 6, .mv (.t 23), none⟩]
@[simp] def f149r7 : List ROper := [
  ⟨some 24, .mv (.t 6), none⟩,
  ⟨some 25, .bin .geq (.t 24) (.c (.int .u8 (.ofNat 65))), none⟩,
  ⟨some 26, .mv (.t 25), none⟩,
  ⟨some 27, .mv (.t 6), some (26, true)⟩,
  ⟨some 28, .bin .leq (.t 27) (.c (.int .u8 (.ofNat 90))), some (26, true)⟩,
  ⟨some 29, .pick (.t 26) (.t 28) (.c (.bool false)), none⟩]
@[simp] def f149r8 : List ROper := [
  ⟨some 30, .mv (.t 4), none⟩,
  ⟨some 31, .mv (.t 5), none⟩,
  ⟨some 32, .mv (.t 6), none⟩,
  ⟨some 33, .bin .add (.t 32) (.c (.int .u8 (.ofNat 97))), none⟩,
  ⟨some 34, .bin .sub (.t 33) (.c (.int .u8 (.ofNat 65))), none⟩,
  ⟨some 35, .iaddr 1 (.t 30) (.t 31), none⟩,
  ⟨none, .store 1 (.t 35) (.t 34), none⟩]
@[simp] def f149r9 : List ROper := [
  ⟨some 36, .mv (.t 4), none⟩,
  ⟨some 37, .mv (.t 5), none⟩,
  ⟨some 38, .iaddr 1 (.t 36) (.t 37), none⟩,
  ⟨some 39, .load 1 false (.t 38), none⟩,
  ⟨some 40, .call 161 [(.t 39)], none⟩,
  ⟨some 41, .un .not (.t 40), none⟩]
@[simp] def f149r10 : List ROper := [
  ⟨some 2, .mv (.c (.str [])), none⟩,
  ⟨some 3, .mv (.c (.bool false)), none⟩]
@[simp] def f149r11 : List ROper := [
  ⟨some 42, .bin .add (.t 19) (.c (.int .i64 (.ofNat 1))), none⟩,
  ⟨some 19, .mv (.t 42), none⟩]
def f149B0 : RC := (.seq (.region f149r5 [4, 17, 18, 19, 20]) (.seq (.cond (.t 20) .skip (.exit 0)) (.seq (.block 1 (.seq (.region f149r6 [4, 5, 6, 17, 18, 19]) (.seq (.seq (.region f149r7 [4, 5, 6, 17, 18, 19, 29]) (.cond (.t 29) (.region f149r8 [4, 5, 17, 18, 19]) .skip)) (.seq (.region f149r9 [4, 17, 18, 19, 41]) (.cond (.t 41) (.seq (.region f149r10 [2, 3]) .ret) .skip))))) (.region f149r11 [4, 17, 18, 19]))))
def f149L0 : RC := .loop [4, 17, 18, 19] f149B0
@[simp] def f149r12 : List ROper := [
  ⟨some 43, .mv (.t 4), none⟩,
  ⟨some 44, .b2s (.t 43), none⟩,
  ⟨some 2, .mv (.t 44), none⟩,
  ⟨some 3, .mv (.c (.bool true)), none⟩]
def f149 : RFunc := ⟨[.t 2, .t 3], (.seq (.region f149r0 [0]) (.seq (.seq (.region f149r1 [0, 14]) (.cond (.t 14) (.seq (.region f149r2 [2, 3]) .ret) .skip)) (.seq (.region f149r3 [4]) (.seq (.seq (.region f149r4 [4, 17, 18, 19]) (.block 0 f149L0)) (.seq (.region f149r12 [2, 3]) .ret))))), true⟩

/-! slices.Clone[[]int,int] -/
@[simp] def f150r0 : List ROper := [
  ⟨some 2, .mv (.c (.list 0 0 .no false [])), none⟩]
@[simp] def f150r1 : List ROper := [
  ⟨some 3, .mv (.t 0), none⟩,
  ⟨some 4, .eq .slice false (.t 3) (.c (.list 0 0 .no false [])), none⟩]
@[simp] def f150r2 : List ROper := [
  ⟨some 2, .mv (.c (.list 0 0 .no false [])), none⟩]
@[simp] def f150r3 : List ROper := [
  ⟨some 5, .lit 1 false [(.int .i64 (.ofNat 0))] 0 [], none⟩,
  ⟨some 6, .mv (.t 0), none⟩,
  ⟨some 7, .append 1 false 8 (.t 5) (.t 6), none⟩,
  ⟨some 2, .mv (.t 7), none⟩]
def f150 : RFunc := ⟨[.t 2], (.seq (.region f150r0 [0]) (.seq (.seq (.region f150r1 [0, 4]) (.cond (.t 4) (.seq (.region f150r2 [2]) .ret) .skip)) (.seq (.region f150r3 [2]) .ret))), true⟩

/-! (*quire/hyph.Hyph).found -/
@[simp] def f151r0 : List ROper := [
  ⟨some 10, .mv (.t 1), none⟩,
  ⟨some 11, .len .str (.t 10), none⟩,
  ⟨some 12, .mv (.c (.int .i64 (.ofNat 0))), none⟩]
@[simp] def f151r1 : List ROper := [
  ⟨some 13, .bin .lss (.t 12) (.t 11), none⟩]
@[simp] def f151r2 : List ROper := [
  ⟨some 14, .mv (.t 12), none⟩,
  ⟨some 6, .mv (.t 14), none⟩]
@[simp] def f151r3 : List ROper := [
  ⟨some 15, .mv (.t 0), none⟩,
  ⟨some 16, .nilchk (.t 15), none⟩,
  ⟨some 17, .faddr 0 (.t 16), none⟩,
  ⟨some 18, .load 1 false (.t 17), none⟩,
  ⟨some 7, .mv (.t 18), none⟩]
@[simp] def f151r4 : List ROper := [
  ⟨some 19, .mv (.t 1), none⟩,
  ⟨some 20, .mv (.t 6), none⟩,
  ⟨some 21, .slice true 1 (.t 19) (some (.t 20)) none none, none⟩,
  ⟨some 22, .s2b (.t 21), none⟩,
  ⟨some 23, .len .slice (.t 22), none⟩,
  ⟨some 24, .mv (.c (.int .i64 (.ofNat 0))), none⟩]
@[simp] def f151r5 : List ROper := [
  ⟨some 25, .bin .lss (.t 24) (.t 23), none⟩]
@[simp] def f151r6 : List ROper := [
  ⟨some 26, .iaddr 1 (.t 22) (.t 24), none⟩,
  ⟨some 27, .load 1 false (.t 26), none⟩,
  ⟨some 9, .mv (.t 27), none⟩]
@[simp] def f151r7 : List ROper := [
  ⟨some 28, .mv (.t 7), none⟩,
  ⟨some 29, .nilchk (.t 28), none⟩,
  ⟨some 30, .faddr 0 (.t 29), none⟩,
  ⟨some 31, .load 1 false (.t 30), none⟩,
  ⟨some 32, .mv (.t 9), none⟩,
  ⟨some 33, .lookup [.int] .nilp (.t 31) (.t 32) false, none⟩,
  ⟨some 7, .mv (.t 33), none⟩]
@[simp] def f151r8 : List ROper := [
  ⟨some 34, .mv (.t 7), none⟩,
  ⟨some 35, .eq .ptr false (.t 34) (.c .nilp), none⟩]
@[simp] def f151r9 : List ROper := [
  ⟨some 36, .mv (.t 7), none⟩,
  ⟨some 37, .nilchk (.t 36), none⟩,
  ⟨some 38, .faddr 1 (.t 37), none⟩,
  ⟨some 39, .load 1 false (.t 38), none⟩,
  ⟨some 40, .eq .slice true (.t 39) (.c (.list 0 0 .no false [])), none⟩]
@[simp] def f151r10 : List ROper := [
  ⟨some 41, .mv (.t 2), none⟩,
  ⟨some 42, .mv (.t 6), none⟩,
  ⟨some 43, .mv (.t 7), none⟩,
  ⟨some 44, .nilchk (.t 43), none⟩,
  ⟨some 45, .faddr 1 (.t 44), none⟩,
  ⟨some 46, .load 1 false (.t 45), none⟩,
  ⟨some 47, .callv (.t 41) [(.t 42), (.t 46)], none⟩]
@[simp] def f151r11 : List ROper := [
  ⟨some 48, .bin .add (.t 24) (.c (.int .i64 (.ofNat 1))), none⟩,
  ⟨some 24, .mv (.t 48), none⟩]
def f151B0 : RC := (.seq (.region f151r5 [0, 1, 2, 6, 7, 11, 12, 22, 23, 24, 25]) (.seq (.cond (.t 25) .skip (.exit 2)) (.seq (.block 3 (.seq (.region f151r6 [0, 1, 2, 6, 7, 9, 11, 12, 22, 23, 24]) (.seq (.region f151r7 [0, 1, 2, 6, 7, 11, 12, 22, 23, 24]) (.seq (.seq (.region f151r8 [0, 1, 2, 6, 7, 11, 12, 22, 23, 24, 35]) (.cond (.t 35) (.exit 2) .skip)) (.seq (.region f151r9 [0, 1, 2, 6, 7, 11, 12, 22, 23, 24, 40]) (.cond (.t 40) (.region f151r10 [0, 1, 2, 6, 7, 11, 12, 22, 23, 24]) .skip)))))) (.region f151r11 [0, 1, 2, 6, 7, 11, 12, 22, 23, 24]))))
def f151L0 : RC := .loop [0, 1, 2, 6, 7, 11, 12, 22, 23, 24] f151B0
@[simp] def f151r12 : List ROper := [
  ⟨some 49, .bin .add (.t 12) (.c (.int .i64 (.ofNat 1))), none⟩,
  ⟨some 12, .mv (.t 49), none⟩]
def f151B1 : RC := (.seq (.region f151r1 [0, 1, 2, 11, 12, 13]) (.seq (.cond (.t 13) .skip (.exit 0)) (.seq (.block 1 (.seq (.region f151r2 [0, 1, 2, 6, 11, 12]) (.seq (.region f151r3 [0, 1, 2, 6, 7, 11, 12]) (.seq (.region f151r4 [0, 1, 2, 6, 7, 11, 12, 22, 23, 24]) (.block 2 f151L0))))) (.region f151r12 [0, 1, 2, 11, 12]))))
def f151L1 : RC := .loop [0, 1, 2, 11, 12] f151B1
def f151 : RFunc := ⟨[], (.seq (.region f151r0 [0, 1, 2, 11, 12]) (.block 0 f151L1)), false⟩

/-! (quire/hyph.values).lay -/
@[simp] def f152r0 : List ROper := [
  ⟨some 8, .mv (.t 2), none⟩,
  ⟨some 9, .len .slice (.t 8), none⟩,
  ⟨some 10, .mv (.c (.int .i64 (.ofNat 0))), none⟩]
@[simp] def f152r1 : List ROper := [
  ⟨some 11, .bin .lss (.t 10) (.t 9), none⟩]
@[simp] def f152r2 : List ROper := [
  ⟨some 12, .mv (.t 10), none⟩,
  ⟨some 13, .iaddr 1 (.t 8) (.t 10), none⟩,
  ⟨some 14, .load 1 false (.t 13), none⟩,
  ⟨some 6, .mv (.t 12), none⟩,
  ⟨some 7, .mv (.t 14), none⟩]
@[simp] def f152r3 : List ROper := [
  ⟨some 15, .mv (.t 0), none⟩,
  ⟨some 16, .mv (.t 1), none⟩,
  ⟨some 17, .mv (.t 6), none⟩,
  ⟨some 18, .bin .add (.t 16) (.t 17), none⟩,
  ⟨some 19, .mv (.t 0), none⟩,
  ⟨some 20, .mv (.t 1), none⟩,
  ⟨some 21, .mv (.t 6), none⟩,
  ⟨some 22, .bin .add (.t 20) (.t 21), none⟩,
  ⟨some 23, .iaddr 1 (.t 19) (.t 22), none⟩,
  ⟨some 24, .load 1 false (.t 23), none⟩,
  ⟨some 25, .mv (.t 7), none⟩,
  ⟨some 26, .max [(.t 24), (.t 25)], none⟩,
  ⟨some 27, .iaddr 1 (.t 15) (.t 18), none⟩,
  ⟨none, .store 1 (.t 27) (.t 26), none⟩]
@[simp] def f152r4 : List ROper := [
  ⟨some 28, .bin .add (.t 10) (.c (.int .i64 (.ofNat 1))), none⟩,
  ⟨some 10, .mv (.t 28), none⟩]
def f152B0 : RC := (.seq (.region f152r1 [0, 1, 8, 9, 10, 11]) (.seq (.cond (.t 11) .skip (.exit 0)) (.seq (.block 1 (.seq (.region f152r2 [0, 1, 6, 7, 8, 9, 10]) (.region f152r3 [0, 1, 8, 9, 10]))) (.region f152r4 [0, 1, 8, 9, 10]))))
def f152L0 : RC := .loop [0, 1, 8, 9, 10] f152B0
def f152 : RFunc := ⟨[], (.seq (.region f152r0 [0, 1, 8, 9, 10]) (.block 0 f152L0)), false⟩

/-! slices.BinarySearchFunc[[]quire/api.Stop,quire/api.Stop,int] -/
@[simp] def f153r0 : List ROper := [
  ⟨some 6, .mv (.c (.int .i64 (.ofNat 0))), none⟩,
  ⟨some 7, .mv (.c (.bool false)), none⟩]
@[simp] def f153r1 : List ROper := [
  ⟨some 12, .mv (.t 0), none⟩,
  ⟨some 13, .len .slice (.t 12), none⟩,
  ⟨some 8, .mv (.t 13), none⟩]
@[simp] def f153r2 : List ROper := [
  ⟨some 14, .mv (.t 8), none⟩,
  ⟨some 9, .mv (.c (.int .i64 (.ofNat 0))), none⟩,
  ⟨some 10, .mv (.t 14), none⟩]
@[simp] def f153r3 : List ROper := [
  ⟨some 15, .mv (.t 9), none⟩,
  ⟨some 16, .mv (.t 10), none⟩,
  ⟨some 17, .bin .lss (.t 15) (.t 16), none⟩]
@[simp] def f153r4 : List ROper := [
  ⟨some 18, .mv (.t 9), none⟩,
  ⟨some 19, .mv (.t 10), none⟩,
  ⟨some 20, .bin .add (.t 18) (.t 19), none⟩,
  ⟨some 21, .i2i .u64 (.t 20), none⟩,
  ⟨some 22, .bin .shr (.t 21) (.c (.int .u64 (.ofNat 1))), none⟩,
  ⟨some 23, .i2i .i64 (.t 22), none⟩,
  ⟨some 11, .mv (.t 23), none⟩]
@[simp] def f153r5 : List ROper := [
  ⟨some 24, .mv (.t 2), none⟩,
  ⟨some 25, .mv (.t 0), none⟩,
  ⟨some 26, .mv (.t 11), none⟩,
  ⟨some 27, .iaddr 2 (.t 25) (.t 26), none⟩,
  ⟨some 28, .load 2 true (.t 27), none⟩,
  ⟨some 29, .mv (.t 1), none⟩,
  ⟨some 30, .callv (.t 24) [(.t 28), (.t 29)], none⟩,
  ⟨some 31, .bin .lss (.t 30) (.c (.int .i64 (.ofNat 0))), none⟩]
@[simp] def f153r6 : List ROper := [
  ⟨some 32, .mv (.t 11), none⟩,
  ⟨some 33, .bin .add (.t 32) (.c (.int .i64 (.ofNat 1))), none⟩,
  ⟨some 9, .mv (.t 33), none⟩]
@[simp] def f153r7 : List ROper := [
  ⟨some 34, .mv (.t 11), none⟩,
  ⟨some 10, .mv (.t 34), none⟩]
def f153B0 : RC := (.seq (.seq (.region f153r3 [0, 1, 2, 8, 9, 10, 17]) (.cond (.t 17) .skip (.exit 0))) (.block 1 (.seq (.region f153r4 [0, 1, 2, 8, 9, 10, 11]) (.seq (.region f153r5 [0, 1, 2, 8, 9, 10, 11, 31]) (.cond (.t 31) (.region f153r6 [0, 1, 2, 8, 9, 10]) (.region f153r7 [0, 1, 2, 8, 9, 10]))))))
def f153L0 : RC := .loop [0, 1, 2, 8, 9, 10] f153B0
@[simp] def f153r8 : List ROper := [
  ⟨some 35, .mv (.t 9), none⟩,
  ⟨some 36, .mv (.t 9), none⟩,
  ⟨some 37, .mv (.t 8), none⟩,
  ⟨some 38, .bin .lss (.t 36) (.t 37), none⟩,
  ⟨some 39, .mv (.t 38), none⟩,
  ⟨some 40, .mv (.t 2), some (39, true)⟩,
  ⟨some 41, .mv (.t 0), some (39, true)⟩,
  ⟨some 42, .mv (.t 9), some (39, true)⟩,
  ⟨some 43, .iaddr 2 (.t 41) (.t 42), some (39, true)⟩,
  ⟨some 44, .load 2 true (.t 43), some (39, true)⟩,
  ⟨some 45, .mv (.t 1), some (39, true)⟩,
  ⟨some 46, .callv (.t 40) [(.t 44), (.t 45)], some (39, true)⟩,
  ⟨some 47, .bin .eql (.t 46) (.c (.int .i64 (.ofNat 0))), some (39, true)⟩,
  ⟨some 48, .pick (.t 39) (.t 47) (.c (.bool false)), none⟩,
  ⟨some 6, .mv (.t 35), none⟩,
  ⟨some 7, .mv (.t 48), none⟩]
def f153 : RFunc := ⟨[.t 6, .t 7], (.seq (.region f153r0 [0, 1, 2]) (.seq (.region f153r1 [0, 1, 2, 8]) (.seq (.region f153r2 [0, 1, 2, 8, 9, 10]) (.seq (.block 0 f153L0) (.seq (.region f153r8 [6, 7]) .ret))))), false⟩

/-! quire/tab.behind$1 -/
@[simp] def f154r0 : List ROper := [
  ⟨some 2, .box 2 (.t 0), none⟩,
  ⟨some 4, .mv (.c (.int .i64 (.ofNat 0))), none⟩]
@[simp] def f154r1 : List ROper := [
  ⟨some 5, .faddr 0 (.t 2), none⟩,
  ⟨some 6, .load 1 false (.t 5), none⟩,
  ⟨some 7, .mv (.t 1), none⟩,
  ⟨some 8, .call 155 [(.t 6), (.t 7)], none⟩,
  ⟨some 4, .mv (.t 8), none⟩]
def f154 : RFunc := ⟨[.t 4], (.seq (.region f154r0 [1, 2]) (.seq (.region f154r1 [4]) .ret)), true⟩

/-! cmp.Compare[int] -/
@[simp] def f155r0 : List ROper := [
  ⟨some 4, .mv (.c (.int .i64 (.ofNat 0))), none⟩]
@[simp] def f155r1 : List ROper := [
  ⟨some 7, .mv (.t 0), none⟩,
  ⟨some 8, .call 162 [(.t 7)], none⟩,
  ⟨some 5, .mv (.t 8), none⟩]
@[simp] def f155r2 : List ROper := [
  ⟨some 9, .mv (.t 1), none⟩,
  ⟨some 10, .call 162 [(.t 9)], none⟩,
  ⟨some 6, .mv (.t 10), none⟩]
@[simp] def f155r3 : List ROper := [
  ⟨some 11, .mv (.t 5), none⟩]
@[simp] def f155r4 : List ROper := [
  ⟨some 12, .mv (.t 6), none⟩]
@[simp] def f155r5 : List ROper := [
  ⟨some 4, .mv (.c (.int .i64 (.ofNat 0))), none⟩]
@[simp] def f155r6 : List ROper := [
  ⟨some 4, .mv (.c (.int .i64 (.negSucc 0))), none⟩]
@[simp] def f155r7 : List ROper := [
  ⟨some 13, .mv (.t 6), none⟩]
@[simp] def f155r8 : List ROper := [
  ⟨some 4, .mv (.c (.int .i64 (.ofNat 1))), none⟩]
@[simp] def f155r9 : List ROper := [
  ⟨some 14, .mv (.t 0), none⟩,
  ⟨some 15, .mv (.t 1), none⟩,
  ⟨some 16, .bin .lss (.t 14) (.t 15), none⟩]
@[simp] def f155r10 : List ROper := [
  ⟨some 4, .mv (.c (.int .i64 (.negSucc 0))), none⟩]
@[simp] def f155r11 : List ROper := [
  ⟨some 17, .mv (.t 0), none⟩,
  ⟨some 18, .mv (.t 1), none⟩,
  ⟨some 19, .bin .gtr (.t 17) (.t 18), none⟩]
@[simp] def f155r12 : List ROper := [
  ⟨some 4, .mv (.c (.int .i64 (.ofNat 1))), none⟩]
@[simp] def f155r13 : List ROper := [
  ⟨some 4, .mv (.c (.int .i64 (.ofNat 0))), none⟩]
def f155 : RFunc := ⟨[.t 4], (.seq (.region f155r0 [0, 1]) (.seq (.region f155r1 [0, 1, 5]) (.seq (.region f155r2 [0, 1, 5, 6]) (.seq (.seq (.region f155r3 [0, 1, 6, 11]) (.cond (.t 11) (.seq (.seq (.region f155r4 [12]) (.cond (.t 12) (.seq (.region f155r5 [4]) .ret) .skip)) (.seq (.region f155r6 [4]) .ret)) .skip)) (.seq (.seq (.region f155r7 [0, 1, 13]) (.cond (.t 13) (.seq (.region f155r8 [4]) .ret) .skip)) (.seq (.seq (.region f155r9 [0, 1, 16]) (.cond (.t 16) (.seq (.region f155r10 [4]) .ret) .skip)) (.seq (.seq (.region f155r11 [19]) (.cond (.t 19) (.seq (.region f155r12 [4]) .ret) .skip)) (.seq (.region f155r13 [4]) .ret)))))))), true⟩

/-! quire/hyph.pattern -/
@[simp] def f156r0 : List ROper := [
  ⟨some 2, .mv (.c (.str [])), none⟩,
  ⟨some 3, .mv (.c (.list 0 0 .no false [])), none⟩,
  ⟨some 4, .mv (.c (.bool false)), none⟩]
@[simp] def f156r1 : List ROper := [
  ⟨some 11, .mv (.t 0), none⟩,
  ⟨some 12, .len .str (.t 11), none⟩,
  ⟨some 13, .bin .lss (.t 12) (.c (.int .i64 (.ofNat 1))), none⟩,
  ⟨some 14, .mv (.t 13), none⟩,
  ⟨some 15, .mv (.t 0), some (14, false)⟩,
  ⟨some 16, .len .str (.t 15), some (14, false)⟩,
  ⟨some 17, .bin .gtr (.t 16) (.c (.int .i64 (.ofNat 16))), some (14, false)⟩,
  ⟨some 18, .pick (.t 14) (.c (.bool true)) (.t 17), none⟩]
@[simp] def f156r2 : List ROper := [
  ⟨some 2, .mv (.c (.str [])), none⟩,
  ⟨some 3, .mv (.c (.list 0 0 .no false [])), none⟩,
  ⟨some 4, .mv (.c (.bool false)), none⟩]
@[simp] def f156r3 : List ROper := [
  ⟨some 5, .mv (.c (.list 0 0 .no false [])), none⟩]
@[simp] def f156r4 : List ROper := [
  ⟨some 19, .hlit 1 false [(.int .u8 (.ofNat 0))] 1 [(0, (.c (.int .u8 (.ofNat 0))))], none⟩,
  ⟨some 6, .mv (.t 19), none⟩]
@[simp] def f156r5 : List ROper := [
  ⟨some 7, .mv (.c (.bool false)), none⟩,
  ⟨some 8, .mv (.c (.bool true)), none⟩]
@[simp] def f156r6 : List ROper := [
  ⟨some 20, .mv (.t 0), none⟩,
  ⟨some 21, .s2h (.t 20), none⟩,
  ⟨some 22, .len .slice (.t 21), none⟩,
  ⟨some 23, .mv (.c (.int .i64 (.ofNat 0))), none⟩]
@[simp] def f156r7 : List ROper := [
  ⟨some 24, .bin .lss (.t 23) (.t 22), none⟩]
@[simp] def f156r8 : List ROper := [
  ⟨some 25, .mv (.t 23), none⟩,
  ⟨some 26, .iaddr 1 (.t 21) (.t 23), none⟩,
  ⟨some 27, .load 1 false (.t 26), none⟩,
  ⟨some 9, .mv (.t 25), none⟩,
  ⟨some 10, .mv (.t 27), none⟩]
@[simp] def f156r9 : List ROper := [
  ⟨some 29, .mv (.t 10), none⟩,
  ⟨some 30, .bin .eql (.t 29) (.c (.int .u8 (.ofNat 46))), none⟩,
  ⟨some 28, .mv (.t 30), none⟩]
@[simp] def f156r10 : List ROper := [
  ⟨some 31, .mv (.t 9), none⟩,
  ⟨some 32, .bin .neq (.t 31) (.c (.int .i64 (.ofNat 0))), none⟩,
  ⟨some 33, .mv (.t 32), none⟩,
  ⟨some 34, .mv (.t 9), some (33, true)⟩,
  ⟨some 35, .mv (.t 0), some (33, true)⟩,
  ⟨some 36, .len .str (.t 35), some (33, true)⟩,
  ⟨some 37, .bin .sub (.t 36) (.c (.int .i64 (.ofNat 1))), some (33, true)⟩,
  ⟨some 38, .bin .neq (.t 34) (.t 37), some (33, true)⟩,
  ⟨some 39, .pick (.t 33) (.t 38) (.c (.bool false)), none⟩]
@[simp] def f156r11 : List ROper := [
  ⟨some 2, .mv (.c (.str [])), none⟩,
  ⟨some 3, .mv (.c (.list 0 0 .no false [])), none⟩,
  ⟨some 4, .mv (.c (.bool false)), none⟩]
@[simp] def f156r12 : List ROper := [
  ⟨some 40, .mv (.t 5), none⟩,
  ⟨some 41, .mv (.t 10), none⟩,
  ⟨some 42, .hlit 1 false [(.int .u8 (.ofNat 0))] 1 [(0, (.t 41))], none⟩,
  ⟨some 43, .append 1 false 1 (.t 40) (.t 42), none⟩,
  ⟨some 44, .mv (.t 6), none⟩,
  ⟨some 45, .hlit 1 false [(.int .u8 (.ofNat 0))] 1 [(0, (.c (.int .u8 (.ofNat 0))))], none⟩,
  ⟨some 46, .append 1 false 1 (.t 44) (.t 45), none⟩,
  ⟨some 5, .mv (.t 43), none⟩,
  ⟨some 6, .mv (.t 46), none⟩]
@[simp] def f156r13 : List ROper := [
  ⟨some 8, .mv (.c (.bool true)), none⟩]
@[simp] def f156r14 : List ROper := [
  ⟨some 48, .mv (.t 10), none⟩,
  ⟨some 49, .call 161 [(.t 48)], none⟩,
  ⟨some 47, .mv (.t 49), none⟩]
@[simp] def f156r15 : List ROper := [
  ⟨some 50, .mv (.t 5), none⟩,
  ⟨some 51, .mv (.t 10), none⟩,
  ⟨some 52, .hlit 1 false [(.int .u8 (.ofNat 0))] 1 [(0, (.t 51))], none⟩,
  ⟨some 53, .append 1 false 1 (.t 50) (.t 52), none⟩,
  ⟨some 54, .mv (.t 6), none⟩,
  ⟨some 55, .hlit 1 false [(.int .u8 (.ofNat 0))] 1 [(0, (.c (.int .u8 (.ofNat 0))))], none⟩,
  ⟨some 56, .append 1 false 1 (.t 54) (.t 55), none⟩,
  ⟨some 5, .mv (.t 53), none⟩,
  ⟨some 6, .mv (.t 56), none⟩]
@[simp] def f156r16 : List ROper := [
  ⟨some 7, .mv (.c (.bool true)), none⟩,
  ⟨some 8, .mv (.c (.bool true)), none⟩]
@[simp] def f156r17 : List ROper := [
  ⟨some 58, .mv (.t 10), none⟩,
  ⟨some 59, .call 163 [(.t 58)], none⟩,
  ⟨some 60, .mv (.t 59), none⟩,
  ⟨some 61, .mv (.t 8), some (60, true)⟩,
  ⟨some 62, .pick (.t 60) (.t 61) (.c (.bool false)), none⟩,
  ⟨some 57, .mv (.t 62), none⟩]
@[simp] def f156r18 : List ROper := [
  ⟨some 63, .mv (.t 6), none⟩,
  ⟨some 64, .mv (.t 6), none⟩,
  ⟨some 65, .len .slice (.t 64), none⟩,
  ⟨some 66, .bin .sub (.t 65) (.c (.int .i64 (.ofNat 1))), none⟩,
  ⟨some 67, .mv (.t 10), none⟩,
  ⟨some 68, .bin .sub (.t 67) (.c (.int .u8 (.ofNat 48))), none⟩,
  ⟨some 69, .iaddr 1 (.t 63) (.t 66), none⟩,
  ⟨none, .store 1 (.t 69) (.t 68), none⟩]
@[simp] def f156r19 : List ROper := [
  ⟨some 8, .mv (.c (.bool false)), none⟩]
@[simp] def f156r20 : List ROper := [
  ⟨some 2, .mv (.c (.str [])), none⟩,
  ⟨some 3, .mv (.c (.list 0 0 .no false [])), none⟩,
  ⟨some 4, .mv (.c (.bool false)), none⟩]
@[simp] def f156r21 : List ROper := [
  ⟨some 70, .bin .add (.t 23) (.c (.int .i64 (.ofNat 1))), none⟩,
  ⟨some 23, .mv (.t 70), none⟩]
def f156B0 : RC := (.seq (.region f156r7 [0, 5, 6, 7, 8, 21, 22, 23, 24]) (.seq (.cond (.t 24) .skip (.exit 0)) (.seq (.block 1 (.seq (.region f156r8 [0, 5, 6, 7, 8, 9, 10, 21, 22, 23]) (.block 2 (.seq (.region f156r9 [0, 5, 6, 7, 8, 9, 10, 21, 22, 23, 28]) (.cond (.t 28) (.seq (.seq (.region f156r10 [0, 5, 6, 7, 10, 21, 22, 23, 39]) (.cond (.t 39) (.seq (.region f156r11 [2, 3, 4]) .ret) .skip)) (.seq (.region f156r12 [0, 5, 6, 7, 21, 22, 23]) (.region f156r13 [0, 5, 6, 7, 8, 21, 22, 23]))) (.seq (.region f156r14 [0, 5, 6, 7, 8, 10, 21, 22, 23, 47]) (.cond (.t 47) (.seq (.region f156r15 [0, 5, 6, 21, 22, 23]) (.region f156r16 [0, 5, 6, 7, 8, 21, 22, 23])) (.seq (.region f156r17 [0, 5, 6, 7, 10, 21, 22, 23, 57]) (.cond (.t 57) (.seq (.region f156r18 [0, 5, 6, 7, 21, 22, 23]) (.region f156r19 [0, 5, 6, 7, 8, 21, 22, 23])) (.seq (.region f156r20 [2, 3, 4]) .ret)))))))))) (.region f156r21 [0, 5, 6, 7, 8, 21, 22, 23]))))
def f156L0 : RC := .loop [0, 5, 6, 7, 8, 21, 22, 23] f156B0
@[simp] def f156r22 : List ROper := [
  ⟨some 71, .mv (.t 5), none⟩,
  ⟨some 72, .b2s (.t 71), none⟩,
  ⟨some 73, .mv (.t 6), none⟩,
  ⟨some 74, .mv (.t 7), none⟩,
  ⟨some 2, .mv (.t 72), none⟩,
  ⟨some 3, .mv (.t 73), none⟩,
  ⟨some 4, .mv (.t 74), none⟩]
def f156 : RFunc := ⟨[.t 2, .t 3, .t 4], (.seq (.region f156r0 [0]) (.seq (.seq (.region f156r1 [0, 18]) (.cond (.t 18) (.seq (.region f156r2 [2, 3, 4]) .ret) .skip)) (.seq (.region f156r3 [0, 5]) (.seq (.region f156r4 [0, 5, 6]) (.seq (.region f156r5 [0, 5, 6, 7, 8]) (.seq (.seq (.region f156r6 [0, 5, 6, 7, 8, 21, 22, 23]) (.block 0 f156L0)) (.seq (.region f156r22 [2, 3, 4]) .ret))))))), true⟩

/-! (*quire/hyph.node).add -/
@[simp] def f157r0 : List ROper := [
  ⟨some 10, .mv (.t 1), none⟩,
  ⟨some 11, .s2b (.t 10), none⟩,
  ⟨some 12, .len .slice (.t 11), none⟩,
  ⟨some 13, .mv (.c (.int .i64 (.ofNat 0))), none⟩]
@[simp] def f157r1 : List ROper := [
  ⟨some 14, .bin .lss (.t 13) (.t 12), none⟩]
@[simp] def f157r2 : List ROper := [
  ⟨some 15, .iaddr 1 (.t 11) (.t 13), none⟩,
  ⟨some 16, .load 1 false (.t 15), none⟩,
  ⟨some 7, .mv (.t 16), none⟩]
@[simp] def f157r3 : List ROper := [
  ⟨some 17, .mv (.t 0), none⟩,
  ⟨some 18, .nilchk (.t 17), none⟩,
  ⟨some 19, .faddr 0 (.t 18), none⟩,
  ⟨some 20, .load 1 false (.t 19), none⟩,
  ⟨some 21, .eq .map false (.t 20) (.c .nilmap), none⟩]
@[simp] def f157r4 : List ROper := [
  ⟨some 22, .mv (.t 0), none⟩,
  ⟨some 23, .mkmap, none⟩,
  ⟨some 24, .nilchk (.t 22), none⟩,
  ⟨some 25, .faddr 0 (.t 24), none⟩,
  ⟨none, .store 1 (.t 25) (.t 23), none⟩]
@[simp] def f157r5 : List ROper := [
  ⟨some 26, .mv (.t 0), none⟩,
  ⟨some 27, .nilchk (.t 26), none⟩,
  ⟨some 28, .faddr 0 (.t 27), none⟩,
  ⟨some 29, .load 1 false (.t 28), none⟩,
  ⟨some 30, .mv (.t 7), none⟩,
  ⟨some 31, .lookup [.int] .nilp (.t 29) (.t 30) false, none⟩,
  ⟨some 32, .eq .ptr false (.t 31) (.c .nilp), none⟩]
@[simp] def f157r6 : List ROper := [
  ⟨some 33, .mv (.t 0), none⟩,
  ⟨some 34, .nilchk (.t 33), none⟩,
  ⟨some 35, .faddr 0 (.t 34), none⟩,
  ⟨some 36, .load 1 false (.t 35), none⟩,
  ⟨some 37, .mv (.t 7), none⟩,
  ⟨some 38, .build [.nilmap, (.list 0 0 .no false [])] [], none⟩,
  ⟨some 39, .box 2 (.t 38), none⟩,
  ⟨none, .mapset [.int] (.t 36) (.t 37) (.t 39), none⟩]
@[simp] def f157r7 : List ROper := [
  ⟨some 40, .mv (.t 0), none⟩,
  ⟨some 41, .nilchk (.t 40), none⟩,
  ⟨some 42, .faddr 0 (.t 41), none⟩,
  ⟨some 43, .load 1 false (.t 42), none⟩,
  ⟨some 44, .mv (.t 7), none⟩,
  ⟨some 45, .lookup [.int] .nilp (.t 43) (.t 44) false, none⟩,
  ⟨some 0, .mv (.t 45), none⟩]
@[simp] def f157r8 : List ROper := [
  ⟨some 46, .bin .add (.t 13) (.c (.int .i64 (.ofNat 1))), none⟩,
  ⟨some 13, .mv (.t 46), none⟩]
def f157B0 : RC := (.seq (.region f157r1 [0, 2, 11, 12, 13, 14]) (.seq (.cond (.t 14) .skip (.exit 0)) (.seq (.block 1 (.seq (.region f157r2 [0, 2, 7, 11, 12, 13]) (.seq (.seq (.region f157r3 [0, 2, 7, 11, 12, 13, 21]) (.cond (.t 21) (.region f157r4 [0, 2, 7, 11, 12, 13]) .skip)) (.seq (.seq (.region f157r5 [0, 2, 7, 11, 12, 13, 32]) (.cond (.t 32) (.region f157r6 [0, 2, 7, 11, 12, 13]) .skip)) (.region f157r7 [0, 2, 11, 12, 13]))))) (.region f157r8 [0, 2, 11, 12, 13]))))
def f157L0 : RC := .loop [0, 2, 11, 12, 13] f157B0
@[simp] def f157r9 : List ROper := [
  ⟨some 47, .mv (.t 0), none⟩,
  ⟨some 48, .nilchk (.t 47), none⟩,
  ⟨some 49, .faddr 1 (.t 48), none⟩,
  ⟨some 50, .load 1 false (.t 49), none⟩,
  ⟨some 51, .eq .slice false (.t 50) (.c (.list 0 0 .no false [])), none⟩]
@[simp] def f157r10 : List ROper := [
  ⟨some 52, .mv (.t 0), none⟩,
  ⟨some 53, .mv (.t 2), none⟩,
  ⟨some 54, .call 164 [(.t 53)], none⟩,
  ⟨some 55, .nilchk (.t 52), none⟩,
  ⟨some 56, .faddr 1 (.t 55), none⟩,
  ⟨none, .store 1 (.t 56) (.t 54), none⟩]
@[simp] def f157r11 : List ROper := [
  ⟨some 57, .mv (.t 2), none⟩,
  ⟨some 58, .len .slice (.t 57), none⟩,
  ⟨some 59, .mv (.c (.int .i64 (.ofNat 0))), none⟩]
@[simp] def f157r12 : List ROper := [
  ⟨some 60, .bin .lss (.t 59) (.t 58), none⟩]
@[simp] def f157r13 : List ROper := [
  ⟨some 61, .mv (.t 59), none⟩,
  ⟨some 62, .iaddr 1 (.t 57) (.t 59), none⟩,
  ⟨some 63, .load 1 false (.t 62), none⟩,
  ⟨some 8, .mv (.t 61), none⟩,
  ⟨some 9, .mv (.t 63), none⟩]
@[simp] def f157r14 : List ROper := [
  ⟨some 64, .mv (.t 0), none⟩,
  ⟨some 65, .nilchk (.t 64), none⟩,
  ⟨some 66, .faddr 1 (.t 65), none⟩,
  ⟨some 67, .load 1 false (.t 66), none⟩,
  ⟨some 68, .mv (.t 8), none⟩,
  ⟨some 69, .mv (.t 0), none⟩,
  ⟨some 70, .nilchk (.t 69), none⟩,
  ⟨some 71, .faddr 1 (.t 70), none⟩,
  ⟨some 72, .load 1 false (.t 71), none⟩,
  ⟨some 73, .mv (.t 8), none⟩,
  ⟨some 74, .iaddr 1 (.t 72) (.t 73), none⟩,
  ⟨some 75, .load 1 false (.t 74), none⟩,
  ⟨some 76, .mv (.t 9), none⟩,
  ⟨some 77, .max [(.t 75), (.t 76)], none⟩,
  ⟨some 78, .iaddr 1 (.t 67) (.t 68), none⟩,
  ⟨none, .store 1 (.t 78) (.t 77), none⟩]
@[simp] def f157r15 : List ROper := [
  ⟨some 79, .bin .add (.t 59) (.c (.int .i64 (.ofNat 1))), none⟩,
  ⟨some 59, .mv (.t 79), none⟩]
def f157B1 : RC := (.seq (.region f157r12 [0, 57, 58, 59, 60]) (.seq (.cond (.t 60) .skip (.exit 2)) (.seq (.block 3 (.seq (.region f157r13 [0, 8, 9, 57, 58, 59]) (.dregion f157r14 [] [] [0, 57, 58, 59]))) (.region f157r15 [0, 57, 58, 59]))))
def f157L1 : RC := .loop [0, 57, 58, 59] f157B1
def f157 : RFunc := ⟨[], (.seq (.seq (.region f157r0 [0, 2, 11, 12, 13]) (.block 0 f157L0)) (.seq (.seq (.region f157r9 [0, 2, 51]) (.cond (.t 51) (.seq (.region f157r10 []) .ret) .skip)) (.seq (.region f157r11 [0, 57, 58, 59]) (.block 2 f157L1)))), false⟩

/-! quire/hyph.exception -/
@[simp] def f158r0 : List ROper := [
  ⟨some 2, .mv (.c (.str [])), none⟩,
  ⟨some 3, .mv (.c (.list 0 0 .no false [])), none⟩,
  ⟨some 4, .mv (.c (.bool false)), none⟩]
@[simp] def f158r1 : List ROper := [
  ⟨some 5, .mv (.c (.list 0 0 .no false [])), none⟩]
@[simp] def f158r2 : List ROper := [
  ⟨some 6, .mv (.c (.list 0 0 .no false [])), none⟩]
@[simp] def f158r3 : List ROper := [
  ⟨some 9, .mv (.t 0), none⟩,
  ⟨some 10, .s2b (.t 9), none⟩,
  ⟨some 11, .len .slice (.t 10), none⟩,
  ⟨some 12, .mv (.c (.int .i64 (.ofNat 0))), none⟩]
@[simp] def f158r4 : List ROper := [
  ⟨some 13, .bin .lss (.t 12) (.t 11), none⟩]
@[simp] def f158r5 : List ROper := [
  ⟨some 14, .mv (.t 12), none⟩,
  ⟨some 15, .iaddr 1 (.t 10) (.t 12), none⟩,
  ⟨some 16, .load 1 false (.t 15), none⟩,
  ⟨some 7, .mv (.t 14), none⟩,
  ⟨some 8, .mv (.t 16), none⟩]
@[simp] def f158r6 : List ROper := [
  ⟨some 18, .mv (.t 8), none⟩,
  ⟨some 19, .call 161 [(.t 18)], none⟩,
  ⟨some 17, .mv (.t 19), none⟩]
@[simp] def f158r7 : List ROper := [
  ⟨some 20, .mv (.t 5), none⟩,
  ⟨some 21, .mv (.t 8), none⟩,
  ⟨some 22, .lit 1 false [(.int .u8 (.ofNat 0))] 1 [(0, (.t 21))], none⟩,
  ⟨some 23, .append 1 false 1 (.t 20) (.t 22), none⟩,
  ⟨some 5, .mv (.t 23), none⟩]
@[simp] def f158r8 : List ROper := [
  ⟨some 25, .mv (.t 8), none⟩,
  ⟨some 26, .bin .eql (.t 25) (.c (.int .u8 (.ofNat 45))), none⟩,
  ⟨some 27, .mv (.t 26), none⟩,
  ⟨some 28, .mv (.t 7), some (27, true)⟩,
  ⟨some 29, .bin .gtr (.t 28) (.c (.int .i64 (.ofNat 0))), some (27, true)⟩,
  ⟨some 30, .pick (.t 27) (.t 29) (.c (.bool false)), none⟩,
  ⟨some 31, .mv (.t 30), none⟩,
  ⟨some 32, .mv (.t 7), some (31, true)⟩,
  ⟨some 33, .mv (.t 0), some (31, true)⟩,
  ⟨some 34, .len .str (.t 33), some (31, true)⟩,
  ⟨some 35, .bin .sub (.t 34) (.c (.int .i64 (.ofNat 1))), some (31, true)⟩,
  ⟨some 36, .bin .lss (.t 32) (.t 35), some (31, true)⟩,
  ⟨some 37, .pick (.t 31) (.t 36) (.c (.bool false)), none⟩,
  ⟨some 38, .mv (.t 37), none⟩,
  ⟨some 39, .mv (.t 0), some (38, true)⟩,
  ⟨some 40, .mv (.t 7), some (38, true)⟩,
  ⟨some 41, .bin .sub (.t 40) (.c (.int .i64 (.ofNat 1))), some (38, true)⟩,
  ⟨some 42, .index (.t 39) (.t 41), some (38, true)⟩,
  ⟨some 43, .bin .neq (.t 42) (.c (.int .u8 (.ofNat 45))), some (38, true)⟩,
  ⟨some 44, .pick (.t 38) (.t 43) (.c (.bool false)), none⟩,
  ⟨some 24, .mv (.t 44), none⟩]
@[simp] def f158r9 : List ROper := [
  ⟨some 45, .mv (.t 6), none⟩,
  ⟨some 46, .mv (.t 5), none⟩,
  ⟨some 47, .len .slice (.t 46), none⟩,
  ⟨some 48, .lit 1 false [(.int .i64 (.ofNat 0))] 1 [(0, (.t 47))], none⟩,
  ⟨some 49, .append 1 false 8 (.t 45) (.t 48), none⟩,
  ⟨some 6, .mv (.t 49), none⟩]
@[simp] def f158r10 : List ROper := [
  ⟨some 2, .mv (.c (.str [])), none⟩,
  ⟨some 3, .mv (.c (.list 0 0 .no false [])), none⟩,
  ⟨some 4, .mv (.c (.bool false)), none⟩]
@[simp] def f158r11 : List ROper := [
  ⟨some 50, .bin .add (.t 12) (.c (.int .i64 (.ofNat 1))), none⟩,
  ⟨some 12, .mv (.t 50), none⟩]
def f158B0 : RC := (.seq (.region f158r4 [0, 5, 6, 10, 11, 12, 13]) (.seq (.cond (.t 13) .skip (.exit 0)) (.seq (.block 1 (.seq (.region f158r5 [0, 5, 6, 7, 8, 10, 11, 12]) (.block 2 (.seq (.region f158r6 [0, 5, 6, 7, 8, 10, 11, 12, 17]) (.cond (.t 17) (.region f158r7 [0, 5, 6, 10, 11, 12]) (.seq (.region f158r8 [0, 5, 6, 10, 11, 12, 24]) (.cond (.t 24) (.region f158r9 [0, 5, 6, 10, 11, 12]) (.seq (.region f158r10 [2, 3, 4]) .ret)))))))) (.region f158r11 [0, 5, 6, 10, 11, 12]))))
def f158L0 : RC := .loop [0, 5, 6, 10, 11, 12] f158B0
@[simp] def f158r12 : List ROper := [
  ⟨some 51, .mv (.t 5), none⟩,
  ⟨some 52, .b2s (.t 51), none⟩,
  ⟨some 53, .mv (.t 6), none⟩,
  ⟨some 54, .mv (.t 5), none⟩,
  ⟨some 55, .len .slice (.t 54), none⟩,
  ⟨some 56, .bin .geq (.t 55) (.c (.int .i64 (.ofNat 2))), none⟩,
  ⟨some 57, .mv (.t 56), none⟩,
  ⟨some 58, .mv (.t 5), some (57, true)⟩,
  ⟨some 59, .len .slice (.t 58), some (57, true)⟩,
  ⟨some 60, .bin .leq (.t 59) (.c (.int .i64 (.ofNat 64))), some (57, true)⟩,
  ⟨some 61, .pick (.t 57) (.t 60) (.c (.bool false)), none⟩,
  ⟨some 2, .mv (.t 52), none⟩,
  ⟨some 3, .mv (.t 53), none⟩,
  ⟨some 4, .mv (.t 61), none⟩]
def f158 : RFunc := ⟨[.t 2, .t 3, .t 4], (.seq (.region f158r0 [0]) (.seq (.region f158r1 [0, 5]) (.seq (.region f158r2 [0, 5, 6]) (.seq (.seq (.region f158r3 [0, 5, 6, 10, 11, 12]) (.block 0 f158L0)) (.seq (.region f158r12 [2, 3, 4]) .ret))))), true⟩

/-! strings.FieldsFunc -/
@[simp] def f159r0 : List ROper := [
  ⟨some 4, .mv (.c (.list 0 0 .no false [])), none⟩]
@[simp] def f159r1 : List ROper := [
  ⟨some 12, .mklist 2 16 (.c (.int .i64 (.ofNat 0))) (.c (.int .i64 (.ofNat 32))), none⟩,
  ⟨some 5, .mv (.t 12), none⟩]
@[simp] def f159r2 : List ROper := [
  ⟨some 6, .mv (.c (.int .i64 (.negSucc 0))), none⟩]
@[simp] def f159r3 : List ROper := [
  ⟨some 13, .mv (.t 0), none⟩,
  ⟨some 14, .fail, none⟩]
@[simp] def f159r4 : List ROper := [
  ⟨some 15, .fail, none⟩,
  ⟨some 16, .extract (.t 15) 0, none⟩]
@[simp] def f159r5 : List ROper := [
  ⟨some 17, .extract (.t 15) 1, none⟩,
  ⟨some 18, .extract (.t 15) 2, none⟩,
  ⟨some 7, .mv (.t 17), none⟩,
  ⟨some 8, .mv (.t 18), none⟩]
@[simp] def f159r6 : List ROper := [
  ⟨some 19, .mv (.t 1), none⟩,
  ⟨some 20, .mv (.t 8), none⟩,
  ⟨some 21, .callv (.t 19) [(.t 20)], none⟩]
@[simp] def f159r7 : List ROper := [
  ⟨some 22, .mv (.t 6), none⟩,
  ⟨some 23, .bin .geq (.t 22) (.c (.int .i64 (.ofNat 0))), none⟩]
@[simp] def f159r8 : List ROper := [
  ⟨some 24, .mv (.t 5), none⟩,
  ⟨some 25, .mv (.t 6), none⟩,
  ⟨some 26, .mv (.t 7), none⟩,
  ⟨some 27, .build [(.int .i64 (.ofNat 0)), (.int .i64 (.ofNat 0))] [(0, 1, (.t 25)), (1, 1, (.t 26))], none⟩,
  ⟨some 28, .lit 2 true [(.int .i64 (.ofNat 0)), (.int .i64 (.ofNat 0))] 1 [(0, (.t 27))], none⟩,
  ⟨some 29, .append 2 true 16 (.t 24) (.t 28), none⟩,
  ⟨some 5, .mv (.t 29), none⟩]
@[simp] def f159r9 : List ROper := [
  ⟨some 30, .mv (.t 6), none⟩,
  ⟨some 31, .un .xor (.t 30), none⟩,
  ⟨some 6, .mv (.t 31), none⟩]
@[simp] def f159r10 : List ROper := [
  ⟨some 32, .mv (.t 6), none⟩,
  ⟨some 33, .bin .lss (.t 32) (.c (.int .i64 (.ofNat 0))), none⟩]
@[simp] def f159r11 : List ROper := [
  ⟨some 34, .mv (.t 7), none⟩,
  ⟨some 6, .mv (.t 34), none⟩]
def f159B0 : RC := (.seq (.region f159r4 [0, 1, 5, 6, 15, 16]) (.seq (.cond (.t 16) .skip (.exit 0)) (.block 1 (.seq (.region f159r5 [0, 1, 5, 6, 7, 8]) (.seq (.region f159r6 [0, 1, 5, 6, 7, 21]) (.cond (.t 21) (.seq (.region f159r7 [0, 1, 5, 6, 7, 23]) (.cond (.t 23) (.seq (.region f159r8 [0, 1, 5, 6]) (.region f159r9 [0, 1, 5, 6])) .skip)) (.seq (.region f159r10 [0, 1, 5, 6, 7, 33]) (.cond (.t 33) (.region f159r11 [0, 1, 5, 6]) .skip))))))))
def f159L0 : RC := .loop [0, 1, 5, 6] f159B0
@[simp] def f159r12 : List ROper := [
  ⟨some 35, .mv (.t 6), none⟩,
  ⟨some 36, .bin .geq (.t 35) (.c (.int .i64 (.ofNat 0))), none⟩]
@[simp] def f159r13 : List ROper := [
  ⟨some 37, .mv (.t 5), none⟩,
  ⟨some 38, .mv (.t 6), none⟩,
  ⟨some 39, .mv (.t 0), none⟩,
  ⟨some 40, .len .str (.t 39), none⟩,
  ⟨some 41, .build [(.int .i64 (.ofNat 0)), (.int .i64 (.ofNat 0))] [(0, 1, (.t 38)), (1, 1, (.t 40))], none⟩,
  ⟨some 42, .lit 2 true [(.int .i64 (.ofNat 0)), (.int .i64 (.ofNat 0))] 1 [(0, (.t 41))], none⟩,
  ⟨some 43, .append 2 true 16 (.t 37) (.t 42), none⟩,
  ⟨some 5, .mv (.t 43), none⟩]
@[simp] def f159r14 : List ROper := [
  ⟨some 44, .mv (.t 5), none⟩,
  ⟨some 45, .len .slice (.t 44), none⟩,
  ⟨some 46, .mkslice 1 false 16 [(.str [])] (.t 45) (.t 45), none⟩,
  ⟨some 9, .mv (.t 46), none⟩]
@[simp] def f159r15 : List ROper := [
  ⟨some 47, .mv (.t 5), none⟩,
  ⟨some 48, .len .slice (.t 47), none⟩,
  ⟨some 49, .mv (.c (.int .i64 (.ofNat 0))), none⟩]
@[simp] def f159r16 : List ROper := [
  ⟨some 50, .bin .lss (.t 49) (.t 48), none⟩]
@[simp] def f159r17 : List ROper := [
  ⟨some 51, .mv (.t 49), none⟩,
  ⟨some 52, .iaddr 2 (.t 47) (.t 49), none⟩,
  ⟨some 53, .load 2 true (.t 52), none⟩,
  ⟨some 11, .alloc [(.int .i64 (.ofNat 0)), (.int .i64 (.ofNat 0))], none⟩,
  ⟨some 10, .mv (.t 51), none⟩,
  ⟨none, .store 2 (.t 11) (.t 53), none⟩]
@[simp] def f159r18 : List ROper := [
  ⟨some 54, .mv (.t 9), none⟩,
  ⟨some 55, .mv (.t 10), none⟩,
  ⟨some 56, .mv (.t 0), none⟩,
  ⟨some 57, .faddr 0 (.t 11), none⟩,
  ⟨some 58, .load 1 false (.t 57), none⟩,
  ⟨some 59, .faddr 1 (.t 11), none⟩,
  ⟨some 60, .load 1 false (.t 59), none⟩,
  ⟨some 61, .slice true 1 (.t 56) (some (.t 58)) (some (.t 60)) none, none⟩,
  ⟨some 62, .iaddr 1 (.t 54) (.t 55), none⟩,
  ⟨none, .store 1 (.t 62) (.t 61), none⟩]
@[simp] def f159r19 : List ROper := [
  ⟨some 63, .bin .add (.t 49) (.c (.int .i64 (.ofNat 1))), none⟩,
  ⟨some 49, .mv (.t 63), none⟩]
def f159B1 : RC := (.seq (.region f159r16 [0, 9, 47, 48, 49, 50]) (.seq (.cond (.t 50) .skip (.exit 2)) (.seq (.block 3 (.seq (.region f159r17 [0, 9, 10, 11, 47, 48, 49]) (.region f159r18 [0, 9, 47, 48, 49]))) (.region f159r19 [0, 9, 47, 48, 49]))))
def f159L1 : RC := .loop [0, 9, 47, 48, 49] f159B1
@[simp] def f159r20 : List ROper := [
  ⟨some 64, .mv (.t 9), none⟩,
  ⟨some 4, .mv (.t 64), none⟩]
def f159 : RFunc := ⟨[.t 4], (.seq (.region f159r0 [0, 1]) (.seq (.region f159r1 [0, 1, 5]) (.seq (.region f159r2 [0, 1, 5, 6]) (.seq (.seq (.region f159r3 [0, 1, 5, 6]) (.block 0 f159L0)) (.seq (.seq (.region f159r12 [0, 5, 6, 36]) (.cond (.t 36) (.region f159r13 [0, 5]) .skip)) (.seq (.region f159r14 [0, 5, 9]) (.seq (.seq (.region f159r15 [0, 9, 47, 48, 49]) (.block 2 f159L1)) (.seq (.region f159r20 [4]) .ret)))))))), false⟩

/-! unicode.IsSpace -/
@[simp] def f160r0 : List ROper := [
  ⟨some 2, .mv (.c (.bool false)), none⟩]
@[simp] def f160r1 : List ROper := [
  ⟨some 3, .mv (.t 0), none⟩,
  ⟨some 4, .i2i .u32 (.t 3), none⟩,
  ⟨some 5, .bin .leq (.t 4) (.c (.int .u32 (.ofNat 255))), none⟩]
@[simp] def f160r2 : List ROper := [
  ⟨some 6, .mv (.t 0), none⟩]
@[simp] def f160r3 : List ROper := [
  ⟨some 8, .bin .eql (.t 6) (.c (.int .i32 (.ofNat 9))), none⟩,
  ⟨some 7, .mv (.t 8), none⟩]
@[simp] def f160r4 : List ROper := [
  ⟨some 9, .bin .eql (.t 6) (.c (.int .i32 (.ofNat 10))), none⟩,
  ⟨some 7, .mv (.t 9), none⟩]
@[simp] def f160r5 : List ROper := [
  ⟨some 10, .bin .eql (.t 6) (.c (.int .i32 (.ofNat 11))), none⟩,
  ⟨some 7, .mv (.t 10), none⟩]
@[simp] def f160r6 : List ROper := [
  ⟨some 11, .bin .eql (.t 6) (.c (.int .i32 (.ofNat 12))), none⟩,
  ⟨some 7, .mv (.t 11), none⟩]
@[simp] def f160r7 : List ROper := [
  ⟨some 12, .bin .eql (.t 6) (.c (.int .i32 (.ofNat 13))), none⟩,
  ⟨some 7, .mv (.t 12), none⟩]
@[simp] def f160r8 : List ROper := [
  ⟨some 13, .bin .eql (.t 6) (.c (.int .i32 (.ofNat 32))), none⟩,
  ⟨some 7, .mv (.t 13), none⟩]
@[simp] def f160r9 : List ROper := [
  ⟨some 14, .bin .eql (.t 6) (.c (.int .i32 (.ofNat 133))), none⟩,
  ⟨some 7, .mv (.t 14), none⟩]
@[simp] def f160r10 : List ROper := [
  ⟨some 15, .bin .eql (.t 6) (.c (.int .i32 (.ofNat 160))), none⟩,
  ⟨some 7, .mv (.t 15), none⟩]
@[simp] def f160r11 : List ROper := [
  ⟨some 2, .mv (.c (.bool true)), none⟩]
@[simp] def f160r12 : List ROper := [
  ⟨some 2, .mv (.c (.bool false)), none⟩]
@[simp] def f160r13 : List ROper := [
  ⟨some 16, .fail, none⟩,
  ⟨some 17, .mv (.t 0), none⟩,
  ⟨some 18, .call 165 [(.t 16), (.t 17)], none⟩,
  ⟨some 2, .mv (.t 18), none⟩]
def f160 : RFunc := ⟨[.t 2], (.seq (.region f160r0 [0]) (.seq (.seq (.region f160r1 [0, 5]) (.cond (.t 5) (.seq (.seq (.region f160r2 [6]) (.block 0 (.seq (.seq (.region f160r3 [6, 7]) (.cond (.t 7) .skip (.seq (.region f160r4 [6, 7]) (.cond (.t 7) .skip (.seq (.region f160r5 [6, 7]) (.cond (.t 7) .skip (.seq (.region f160r6 [6, 7]) (.cond (.t 7) .skip (.seq (.region f160r7 [6, 7]) (.cond (.t 7) .skip (.seq (.region f160r8 [6, 7]) (.cond (.t 7) .skip (.seq (.region f160r9 [6, 7]) (.cond (.t 7) .skip (.region f160r10 [7]))))))))))))))) (.cond (.t 7) (.seq (.region f160r11 [2]) .ret) .skip)))) (.seq (.region f160r12 [2]) .ret)) .skip)) (.seq (.region f160r13 [2]) .ret))), true⟩

/-! quire/hyph.small -/
@[simp] def f161r0 : List ROper := [
  ⟨some 2, .mv (.c (.bool false)), none⟩]
@[simp] def f161r1 : List ROper := [
  ⟨some 3, .mv (.t 0), none⟩,
  ⟨some 4, .bin .geq (.t 3) (.c (.int .u8 (.ofNat 97))), none⟩,
  ⟨some 5, .mv (.t 4), none⟩,
  ⟨some 6, .mv (.t 0), some (5, true)⟩,
  ⟨some 7, .bin .leq (.t 6) (.c (.int .u8 (.ofNat 122))), some (5, true)⟩,
  ⟨some 8, .pick (.t 5) (.t 7) (.c (.bool false)), none⟩,
  ⟨some 2, .mv (.t 8), none⟩]
def f161 : RFunc := ⟨[.t 2], (.seq (.region f161r0 [0]) (.seq (.region f161r1 [2]) .ret)), true⟩

/-! cmp.isNaN[int] -/
@[simp] def f162r0 : List ROper := [
  ⟨some 2, .mv (.c (.bool false)), none⟩]
@[simp] def f162r1 : List ROper := [
  ⟨some 3, .mv (.t 0), none⟩,
  ⟨some 4, .mv (.t 0), none⟩,
  ⟨some 5, .bin .neq (.t 3) (.t 4), none⟩,
  ⟨some 2, .mv (.t 5), none⟩]
def f162 : RFunc := ⟨[.t 2], (.seq (.region f162r0 [0]) (.seq (.region f162r1 [2]) .ret)), true⟩

/-! quire/hyph.digit -/
@[simp] def f163r0 : List ROper := [
  ⟨some 2, .mv (.c (.bool false)), none⟩]
@[simp] def f163r1 : List ROper := [
  ⟨some 3, .mv (.t 0), none⟩,
  ⟨some 4, .bin .geq (.t 3) (.c (.int .u8 (.ofNat 48))), none⟩,
  ⟨some 5, .mv (.t 4), none⟩,
  ⟨some 6, .mv (.t 0), some (5, true)⟩,
  ⟨some 7, .bin .leq (.t 6) (.c (.int .u8 (.ofNat 57))), some (5, true)⟩,
  ⟨some 8, .pick (.t 5) (.t 7) (.c (.bool false)), none⟩,
  ⟨some 2, .mv (.t 8), none⟩]
def f163 : RFunc := ⟨[.t 2], (.seq (.region f163r0 [0]) (.seq (.region f163r1 [2]) .ret)), true⟩

/-! slices.Clone[[]byte,byte] -/
@[simp] def f164r0 : List ROper := [
  ⟨some 2, .mv (.c (.list 0 0 .no false [])), none⟩]
@[simp] def f164r1 : List ROper := [
  ⟨some 3, .mv (.t 0), none⟩,
  ⟨some 4, .eq .slice false (.t 3) (.c (.list 0 0 .no false [])), none⟩]
@[simp] def f164r2 : List ROper := [
  ⟨some 2, .mv (.c (.list 0 0 .no false [])), none⟩]
@[simp] def f164r3 : List ROper := [
  ⟨some 5, .lit 1 false [(.int .u8 (.ofNat 0))] 0 [], none⟩,
  ⟨some 6, .mv (.t 0), none⟩,
  ⟨some 7, .append 1 false 1 (.t 5) (.t 6), none⟩,
  ⟨some 2, .mv (.t 7), none⟩]
def f164 : RFunc := ⟨[.t 2], (.seq (.region f164r0 [0]) (.seq (.seq (.region f164r1 [0, 4]) (.cond (.t 4) (.seq (.region f164r2 [2]) .ret) .skip)) (.seq (.region f164r3 [2]) .ret))), true⟩

/-! unicode.isExcludingLatin -/
@[simp] def f165r0 : List ROper := [
  ⟨some 4, .mv (.c (.bool false)), none⟩]
@[simp] def f165r1 : List ROper := [
  ⟨some 8, .mv (.t 0), none⟩,
  ⟨some 9, .nilchk (.t 8), none⟩,
  ⟨some 10, .faddr 0 (.t 9), none⟩,
  ⟨some 11, .load 1 false (.t 10), none⟩,
  ⟨some 5, .mv (.t 11), none⟩]
@[simp] def f165r2 : List ROper := [
  ⟨some 12, .mv (.t 0), none⟩,
  ⟨some 13, .nilchk (.t 12), none⟩,
  ⟨some 14, .faddr 2 (.t 13), none⟩,
  ⟨some 15, .load 1 false (.t 14), none⟩,
  ⟨some 6, .mv (.t 15), none⟩]
@[simp] def f165r3 : List ROper := [
  ⟨some 16, .mv (.t 5), none⟩,
  ⟨some 17, .len .slice (.t 16), none⟩,
  ⟨some 18, .mv (.t 6), none⟩,
  ⟨some 19, .bin .gtr (.t 17) (.t 18), none⟩,
  ⟨some 20, .mv (.t 19), none⟩,
  ⟨some 21, .mv (.t 1), some (20, true)⟩,
  ⟨some 22, .i2i .u32 (.t 21), some (20, true)⟩,
  ⟨some 23, .mv (.t 5), some (20, true)⟩,
  ⟨some 24, .mv (.t 5), some (20, true)⟩,
  ⟨some 25, .len .slice (.t 24), some (20, true)⟩,
  ⟨some 26, .bin .sub (.t 25) (.c (.int .i64 (.ofNat 1))), some (20, true)⟩,
  ⟨some 27, .iaddr 3 (.t 23) (.t 26), some (20, true)⟩,
  ⟨some 28, .faddr 1 (.t 27), some (20, true)⟩,
  ⟨some 29, .load 1 false (.t 28), some (20, true)⟩,
  ⟨some 30, .i2i .u32 (.t 29), some (20, true)⟩,
  ⟨some 31, .bin .leq (.t 22) (.t 30), some (20, true)⟩,
  ⟨some 32, .pick (.t 20) (.t 31) (.c (.bool false)), none⟩]
@[simp] def f165r4 : List ROper := [
  ⟨some 33, .mv (.t 5), none⟩,
  ⟨some 34, .mv (.t 6), none⟩,
  ⟨some 35, .slice false 3 (.t 33) (some (.t 34)) none none, none⟩,
  ⟨some 36, .mv (.t 1), none⟩,
  ⟨some 37, .i2i .u16 (.t 36), none⟩,
  ⟨some 38, .call 166 [(.t 35), (.t 37)], none⟩,
  ⟨some 4, .mv (.t 38), none⟩]
@[simp] def f165r5 : List ROper := [
  ⟨some 39, .mv (.t 0), none⟩,
  ⟨some 40, .nilchk (.t 39), none⟩,
  ⟨some 41, .faddr 1 (.t 40), none⟩,
  ⟨some 42, .load 1 false (.t 41), none⟩,
  ⟨some 7, .mv (.t 42), none⟩]
@[simp] def f165r6 : List ROper := [
  ⟨some 43, .mv (.t 7), none⟩,
  ⟨some 44, .len .slice (.t 43), none⟩,
  ⟨some 45, .bin .gtr (.t 44) (.c (.int .i64 (.ofNat 0))), none⟩,
  ⟨some 46, .mv (.t 45), none⟩,
  ⟨some 47, .mv (.t 1), some (46, true)⟩,
  ⟨some 48, .mv (.t 7), some (46, true)⟩,
  ⟨some 49, .iaddr 3 (.t 48) (.c (.int .i64 (.ofNat 0))), some (46, true)⟩,
  ⟨some 50, .faddr 0 (.t 49), some (46, true)⟩,
  ⟨some 51, .load 1 false (.t 50), some (46, true)⟩,
  ⟨some 52, .i2i .i32 (.t 51), some (46, true)⟩,
  ⟨some 53, .bin .geq (.t 47) (.t 52), some (46, true)⟩,
  ⟨some 54, .pick (.t 46) (.t 53) (.c (.bool false)), none⟩]
@[simp] def f165r7 : List ROper := [
  ⟨some 55, .mv (.t 7), none⟩,
  ⟨some 56, .mv (.t 1), none⟩,
  ⟨some 57, .i2i .u32 (.t 56), none⟩,
  ⟨some 58, .call 167 [(.t 55), (.t 57)], none⟩,
  ⟨some 4, .mv (.t 58), none⟩]
@[simp] def f165r8 : List ROper := [
  ⟨some 4, .mv (.c (.bool false)), none⟩]
def f165 : RFunc := ⟨[.t 4], (.seq (.region f165r0 [0, 1]) (.seq (.region f165r1 [0, 1, 5]) (.seq (.seq (.region f165r2 [0, 1, 5, 6]) (.seq (.region f165r3 [0, 1, 5, 6, 32]) (.cond (.t 32) (.seq (.region f165r4 [4]) .ret) .skip))) (.seq (.region f165r5 [1, 7]) (.seq (.seq (.region f165r6 [1, 7, 54]) (.cond (.t 54) (.seq (.region f165r7 [4]) .ret) .skip)) (.seq (.region f165r8 [4]) .ret)))))), false⟩

/-! unicode.is16 -/
@[simp] def f166r0 : List ROper := [
  ⟨some 4, .mv (.c (.bool false)), none⟩]
@[simp] def f166r1 : List ROper := [
  ⟨some 11, .mv (.t 0), none⟩,
  ⟨some 12, .len .slice (.t 11), none⟩,
  ⟨some 13, .bin .leq (.t 12) (.c (.int .i64 (.ofNat 18))), none⟩,
  ⟨some 14, .mv (.t 13), none⟩,
  ⟨some 15, .mv (.t 1), some (14, false)⟩,
  ⟨some 16, .bin .leq (.t 15) (.c (.int .u16 (.ofNat 255))), some (14, false)⟩,
  ⟨some 17, .pick (.t 14) (.c (.bool true)) (.t 16), none⟩]
@[simp] def f166r2 : List ROper := [
  ⟨some 18, .mv (.t 0), none⟩,
  ⟨some 19, .len .slice (.t 18), none⟩,
  ⟨some 20, .mv (.c (.int .i64 (.ofNat 0))), none⟩]
@[simp] def f166r3 : List ROper := [
  ⟨some 21, .bin .lss (.t 20) (.t 19), none⟩]
@[simp] def f166r4 : List ROper := [
  ⟨some 22, .mv (.t 20), none⟩,
  ⟨some 5, .mv (.t 22), none⟩]
@[simp] def f166r5 : List ROper := [
  ⟨some 23, .mv (.t 0), none⟩,
  ⟨some 24, .mv (.t 5), none⟩,
  ⟨some 25, .iaddr 3 (.t 23) (.t 24), none⟩,
  ⟨some 6, .mv (.t 25), none⟩]
@[simp] def f166r6 : List ROper := [
  ⟨some 26, .mv (.t 1), none⟩,
  ⟨some 27, .mv (.t 6), none⟩,
  ⟨some 28, .nilchk (.t 27), none⟩,
  ⟨some 29, .faddr 0 (.t 28), none⟩,
  ⟨some 30, .load 1 false (.t 29), none⟩,
  ⟨some 31, .bin .lss (.t 26) (.t 30), none⟩]
@[simp] def f166r7 : List ROper := [
  ⟨some 4, .mv (.c (.bool false)), none⟩]
@[simp] def f166r8 : List ROper := [
  ⟨some 32, .mv (.t 1), none⟩,
  ⟨some 33, .mv (.t 6), none⟩,
  ⟨some 34, .nilchk (.t 33), none⟩,
  ⟨some 35, .faddr 1 (.t 34), none⟩,
  ⟨some 36, .load 1 false (.t 35), none⟩,
  ⟨some 37, .bin .leq (.t 32) (.t 36), none⟩]
@[simp] def f166r9 : List ROper := [
  ⟨some 38, .mv (.t 6), none⟩,
  ⟨some 39, .nilchk (.t 38), none⟩,
  ⟨some 40, .faddr 2 (.t 39), none⟩,
  ⟨some 41, .load 1 false (.t 40), none⟩,
  ⟨some 42, .bin .eql (.t 41) (.c (.int .u16 (.ofNat 1))), none⟩,
  ⟨some 43, .mv (.t 42), none⟩,
  ⟨some 44, .mv (.t 1), some (43, false)⟩,
  ⟨some 45, .mv (.t 6), some (43, false)⟩,
  ⟨some 46, .nilchk (.t 45), some (43, false)⟩,
  ⟨some 47, .faddr 0 (.t 46), some (43, false)⟩,
  ⟨some 48, .load 1 false (.t 47), some (43, false)⟩,
  ⟨some 49, .bin .sub (.t 44) (.t 48), some (43, false)⟩,
  ⟨some 50, .mv (.t 6), some (43, false)⟩,
  ⟨some 51, .nilchk (.t 50), some (43, false)⟩,
  ⟨some 52, .faddr 2 (.t 51), some (43, false)⟩,
  ⟨some 53, .load 1 false (.t 52), some (43, false)⟩,
  ⟨some 54, .bin .rem (.t 49) (.t 53), some (43, false)⟩,
  ⟨some 55, .bin .eql (.t 54) (.c (.int .u16 (.ofNat 0))), some (43, false)⟩,
  ⟨some 56, .pick (.t 43) (.c (.bool true)) (.t 55), none⟩,
  ⟨some 4, .mv (.t 56), none⟩]
@[simp] def f166r10 : List ROper := [
  ⟨some 57, .bin .add (.t 20) (.c (.int .i64 (.ofNat 1))), none⟩,
  ⟨some 20, .mv (.t 57), none⟩]
def f166B0 : RC := (.seq (.region f166r3 [0, 1, 19, 20, 21]) (.seq (.cond (.t 21) .skip (.exit 0)) (.seq (.block 1 (.seq (.region f166r4 [0, 1, 5, 19, 20]) (.seq (.region f166r5 [0, 1, 6, 19, 20]) (.seq (.seq (.region f166r6 [0, 1, 6, 19, 20, 31]) (.cond (.t 31) (.seq (.region f166r7 [4]) .ret) .skip)) (.seq (.region f166r8 [0, 1, 6, 19, 20, 37]) (.cond (.t 37) (.seq (.dregion f166r9 [] [] [4]) .ret) .skip)))))) (.region f166r10 [0, 1, 19, 20]))))
def f166L0 : RC := .loop [0, 1, 19, 20] f166B0
@[simp] def f166r11 : List ROper := [
  ⟨some 4, .mv (.c (.bool false)), none⟩]
@[simp] def f166r12 : List ROper := [
  ⟨some 7, .mv (.c (.int .i64 (.ofNat 0))), none⟩]
@[simp] def f166r13 : List ROper := [
  ⟨some 58, .mv (.t 0), none⟩,
  ⟨some 59, .len .slice (.t 58), none⟩,
  ⟨some 8, .mv (.t 59), none⟩]
@[simp] def f166r14 : List ROper := [
  ⟨some 60, .mv (.t 7), none⟩,
  ⟨some 61, .mv (.t 8), none⟩,
  ⟨some 62, .bin .lss (.t 60) (.t 61), none⟩]
@[simp] def f166r15 : List ROper := [
  ⟨some 63, .mv (.t 7), none⟩,
  ⟨some 64, .mv (.t 8), none⟩,
  ⟨some 65, .bin .add (.t 63) (.t 64), none⟩,
  ⟨some 66, .i2i .u64 (.t 65), none⟩,
  ⟨some 67, .bin .shr (.t 66) (.c (.int .u64 (.ofNat 1))), none⟩,
  ⟨some 68, .i2i .i64 (.t 67), none⟩,
  ⟨some 9, .mv (.t 68), none⟩]
@[simp] def f166r16 : List ROper := [
  ⟨some 69, .mv (.t 0), none⟩,
  ⟨some 70, .mv (.t 9), none⟩,
  ⟨some 71, .iaddr 3 (.t 69) (.t 70), none⟩,
  ⟨some 10, .mv (.t 71), none⟩]
@[simp] def f166r17 : List ROper := [
  ⟨some 72, .mv (.t 10), none⟩,
  ⟨some 73, .nilchk (.t 72), none⟩,
  ⟨some 74, .faddr 0 (.t 73), none⟩,
  ⟨some 75, .load 1 false (.t 74), none⟩,
  ⟨some 76, .mv (.t 1), none⟩,
  ⟨some 77, .bin .leq (.t 75) (.t 76), none⟩,
  ⟨some 78, .mv (.t 77), none⟩,
  ⟨some 79, .mv (.t 1), some (78, true)⟩,
  ⟨some 80, .mv (.t 10), some (78, true)⟩,
  ⟨some 81, .nilchk (.t 80), some (78, true)⟩,
  ⟨some 82, .faddr 1 (.t 81), some (78, true)⟩,
  ⟨some 83, .load 1 false (.t 82), some (78, true)⟩,
  ⟨some 84, .bin .leq (.t 79) (.t 83), some (78, true)⟩,
  ⟨some 85, .pick (.t 78) (.t 84) (.c (.bool false)), none⟩]
@[simp] def f166r18 : List ROper := [
  ⟨some 86, .mv (.t 10), none⟩,
  ⟨some 87, .nilchk (.t 86), none⟩,
  ⟨some 88, .faddr 2 (.t 87), none⟩,
  ⟨some 89, .load 1 false (.t 88), none⟩,
  ⟨some 90, .bin .eql (.t 89) (.c (.int .u16 (.ofNat 1))), none⟩,
  ⟨some 91, .mv (.t 90), none⟩,
  ⟨some 92, .mv (.t 1), some (91, false)⟩,
  ⟨some 93, .mv (.t 10), some (91, false)⟩,
  ⟨some 94, .nilchk (.t 93), some (91, false)⟩,
  ⟨some 95, .faddr 0 (.t 94), some (91, false)⟩,
  ⟨some 96, .load 1 false (.t 95), some (91, false)⟩,
  ⟨some 97, .bin .sub (.t 92) (.t 96), some (91, false)⟩,
  ⟨some 98, .mv (.t 10), some (91, false)⟩,
  ⟨some 99, .nilchk (.t 98), some (91, false)⟩,
  ⟨some 100, .faddr 2 (.t 99), some (91, false)⟩,
  ⟨some 101, .load 1 false (.t 100), some (91, false)⟩,
  ⟨some 102, .bin .rem (.t 97) (.t 101), some (91, false)⟩,
  ⟨some 103, .bin .eql (.t 102) (.c (.int .u16 (.ofNat 0))), some (91, false)⟩,
  ⟨some 104, .pick (.t 91) (.c (.bool true)) (.t 103), none⟩,
  ⟨some 4, .mv (.t 104), none⟩]
@[simp] def f166r19 : List ROper := [
  ⟨some 105, .mv (.t 1), none⟩,
  ⟨some 106, .mv (.t 10), none⟩,
  ⟨some 107, .nilchk (.t 106), none⟩,
  ⟨some 108, .faddr 0 (.t 107), none⟩,
  ⟨some 109, .load 1 false (.t 108), none⟩,
  ⟨some 110, .bin .lss (.t 105) (.t 109), none⟩]
@[simp] def f166r20 : List ROper := [
  ⟨some 111, .mv (.t 9), none⟩,
  ⟨some 8, .mv (.t 111), none⟩]
@[simp] def f166r21 : List ROper := [
  ⟨some 112, .mv (.t 9), none⟩,
  ⟨some 113, .bin .add (.t 112) (.c (.int .i64 (.ofNat 1))), none⟩,
  ⟨some 7, .mv (.t 113), none⟩]
def f166B1 : RC := (.seq (.seq (.region f166r14 [0, 1, 7, 8, 62]) (.cond (.t 62) .skip (.exit 2))) (.block 3 (.seq (.region f166r15 [0, 1, 7, 8, 9]) (.seq (.region f166r16 [0, 1, 7, 8, 9, 10]) (.seq (.seq (.region f166r17 [0, 1, 7, 8, 9, 10, 85]) (.cond (.t 85) (.seq (.dregion f166r18 [] [] [4]) .ret) .skip)) (.seq (.region f166r19 [0, 1, 7, 8, 9, 110]) (.cond (.t 110) (.region f166r20 [0, 1, 7, 8]) (.region f166r21 [0, 1, 7, 8]))))))))
def f166L1 : RC := .loop [0, 1, 7, 8] f166B1
@[simp] def f166r22 : List ROper := [
  ⟨some 4, .mv (.c (.bool false)), none⟩]
def f166 : RFunc := ⟨[.t 4], (.seq (.region f166r0 [0, 1]) (.seq (.seq (.region f166r1 [0, 1, 17]) (.cond (.t 17) (.seq (.seq (.region f166r2 [0, 1, 19, 20]) (.block 0 f166L0)) (.seq (.region f166r11 [4]) .ret)) .skip)) (.seq (.region f166r12 [0, 1, 7]) (.seq (.region f166r13 [0, 1, 7, 8]) (.seq (.block 2 f166L1) (.seq (.region f166r22 [4]) .ret)))))), true⟩

/-! unicode.is32 -/
@[simp] def f167r0 : List ROper := [
  ⟨some 4, .mv (.c (.bool false)), none⟩]
@[simp] def f167r1 : List ROper := [
  ⟨some 11, .mv (.t 0), none⟩,
  ⟨some 12, .len .slice (.t 11), none⟩,
  ⟨some 13, .bin .leq (.t 12) (.c (.int .i64 (.ofNat 18))), none⟩]
@[simp] def f167r2 : List ROper := [
  ⟨some 14, .mv (.t 0), none⟩,
  ⟨some 15, .len .slice (.t 14), none⟩,
  ⟨some 16, .mv (.c (.int .i64 (.ofNat 0))), none⟩]
@[simp] def f167r3 : List ROper := [
  ⟨some 17, .bin .lss (.t 16) (.t 15), none⟩]
@[simp] def f167r4 : List ROper := [
  ⟨some 18, .mv (.t 16), none⟩,
  ⟨some 5, .mv (.t 18), none⟩]
@[simp] def f167r5 : List ROper := [
  ⟨some 19, .mv (.t 0), none⟩,
  ⟨some 20, .mv (.t 5), none⟩,
  ⟨some 21, .iaddr 3 (.t 19) (.t 20), none⟩,
  ⟨some 6, .mv (.t 21), none⟩]
@[simp] def f167r6 : List ROper := [
  ⟨some 22, .mv (.t 1), none⟩,
  ⟨some 23, .mv (.t 6), none⟩,
  ⟨some 24, .nilchk (.t 23), none⟩,
  ⟨some 25, .faddr 0 (.t 24), none⟩,
  ⟨some 26, .load 1 false (.t 25), none⟩,
  ⟨some 27, .bin .lss (.t 22) (.t 26), none⟩]
@[simp] def f167r7 : List ROper := [
  ⟨some 4, .mv (.c (.bool false)), none⟩]
@[simp] def f167r8 : List ROper := [
  ⟨some 28, .mv (.t 1), none⟩,
  ⟨some 29, .mv (.t 6), none⟩,
  ⟨some 30, .nilchk (.t 29), none⟩,
  ⟨some 31, .faddr 1 (.t 30), none⟩,
  ⟨some 32, .load 1 false (.t 31), none⟩,
  ⟨some 33, .bin .leq (.t 28) (.t 32), none⟩]
@[simp] def f167r9 : List ROper := [
  ⟨some 34, .mv (.t 6), none⟩,
  ⟨some 35, .nilchk (.t 34), none⟩,
  ⟨some 36, .faddr 2 (.t 35), none⟩,
  ⟨some 37, .load 1 false (.t 36), none⟩,
  ⟨some 38, .bin .eql (.t 37) (.c (.int .u32 (.ofNat 1))), none⟩,
  ⟨some 39, .mv (.t 38), none⟩,
  ⟨some 40, .mv (.t 1), some (39, false)⟩,
  ⟨some 41, .mv (.t 6), some (39, false)⟩,
  ⟨some 42, .nilchk (.t 41), some (39, false)⟩,
  ⟨some 43, .faddr 0 (.t 42), some (39, false)⟩,
  ⟨some 44, .load 1 false (.t 43), some (39, false)⟩,
  ⟨some 45, .bin .sub (.t 40) (.t 44), some (39, false)⟩,
  ⟨some 46, .mv (.t 6), some (39, false)⟩,
  ⟨some 47, .nilchk (.t 46), some (39, false)⟩,
  ⟨some 48, .faddr 2 (.t 47), some (39, false)⟩,
  ⟨some 49, .load 1 false (.t 48), some (39, false)⟩,
  ⟨some 50, .bin .rem (.t 45) (.t 49), some (39, false)⟩,
  ⟨some 51, .bin .eql (.t 50) (.c (.int .u32 (.ofNat 0))), some (39, false)⟩,
  ⟨some 52, .pick (.t 39) (.c (.bool true)) (.t 51), none⟩,
  ⟨some 4, .mv (.t 52), none⟩]
@[simp] def f167r10 : List ROper := [
  ⟨some 53, .bin .add (.t 16) (.c (.int .i64 (.ofNat 1))), none⟩,
  ⟨some 16, .mv (.t 53), none⟩]
def f167B0 : RC := (.seq (.region f167r3 [0, 1, 15, 16, 17]) (.seq (.cond (.t 17) .skip (.exit 0)) (.seq (.block 1 (.seq (.region f167r4 [0, 1, 5, 15, 16]) (.seq (.region f167r5 [0, 1, 6, 15, 16]) (.seq (.seq (.region f167r6 [0, 1, 6, 15, 16, 27]) (.cond (.t 27) (.seq (.region f167r7 [4]) .ret) .skip)) (.seq (.region f167r8 [0, 1, 6, 15, 16, 33]) (.cond (.t 33) (.seq (.dregion f167r9 [] [] [4]) .ret) .skip)))))) (.region f167r10 [0, 1, 15, 16]))))
def f167L0 : RC := .loop [0, 1, 15, 16] f167B0
@[simp] def f167r11 : List ROper := [
  ⟨some 4, .mv (.c (.bool false)), none⟩]
@[simp] def f167r12 : List ROper := [
  ⟨some 7, .mv (.c (.int .i64 (.ofNat 0))), none⟩]
@[simp] def f167r13 : List ROper := [
  ⟨some 54, .mv (.t 0), none⟩,
  ⟨some 55, .len .slice (.t 54), none⟩,
  ⟨some 8, .mv (.t 55), none⟩]
@[simp] def f167r14 : List ROper := [
  ⟨some 56, .mv (.t 7), none⟩,
  ⟨some 57, .mv (.t 8), none⟩,
  ⟨some 58, .bin .lss (.t 56) (.t 57), none⟩]
@[simp] def f167r15 : List ROper := [
  ⟨some 59, .mv (.t 7), none⟩,
  ⟨some 60, .mv (.t 8), none⟩,
  ⟨some 61, .bin .add (.t 59) (.t 60), none⟩,
  ⟨some 62, .i2i .u64 (.t 61), none⟩,
  ⟨some 63, .bin .shr (.t 62) (.c (.int .u64 (.ofNat 1))), none⟩,
  ⟨some 64, .i2i .i64 (.t 63), none⟩,
  ⟨some 9, .mv (.t 64), none⟩]
@[simp] def f167r16 : List ROper := [
  ⟨some 65, .mv (.t 0), none⟩,
  ⟨some 66, .mv (.t 9), none⟩,
  ⟨some 67, .iaddr 3 (.t 65) (.t 66), none⟩,
  ⟨some 68, .load 3 true (.t 67), none⟩,
  ⟨some 10, .alloc [(.int .u32 (.ofNat 0)), (.int .u32 (.ofNat 0)), (.int .u32 (.ofNat 0))], none⟩,
  ⟨none, .store 3 (.t 10) (.t 68), none⟩]
@[simp] def f167r17 : List ROper := [
  ⟨some 69, .faddr 0 (.t 10), none⟩,
  ⟨some 70, .load 1 false (.t 69), none⟩,
  ⟨some 71, .mv (.t 1), none⟩,
  ⟨some 72, .bin .leq (.t 70) (.t 71), none⟩,
  ⟨some 73, .mv (.t 72), none⟩,
  ⟨some 74, .mv (.t 1), some (73, true)⟩,
  ⟨some 75, .faddr 1 (.t 10), some (73, true)⟩,
  ⟨some 76, .load 1 false (.t 75), some (73, true)⟩,
  ⟨some 77, .bin .leq (.t 74) (.t 76), some (73, true)⟩,
  ⟨some 78, .pick (.t 73) (.t 77) (.c (.bool false)), none⟩]
@[simp] def f167r18 : List ROper := [
  ⟨some 79, .faddr 2 (.t 10), none⟩,
  ⟨some 80, .load 1 false (.t 79), none⟩,
  ⟨some 81, .bin .eql (.t 80) (.c (.int .u32 (.ofNat 1))), none⟩,
  ⟨some 82, .mv (.t 81), none⟩,
  ⟨some 83, .mv (.t 1), some (82, false)⟩,
  ⟨some 84, .faddr 0 (.t 10), some (82, false)⟩,
  ⟨some 85, .load 1 false (.t 84), some (82, false)⟩,
  ⟨some 86, .bin .sub (.t 83) (.t 85), some (82, false)⟩,
  ⟨some 87, .faddr 2 (.t 10), some (82, false)⟩,
  ⟨some 88, .load 1 false (.t 87), some (82, false)⟩,
  ⟨some 89, .bin .rem (.t 86) (.t 88), some (82, false)⟩,
  ⟨some 90, .bin .eql (.t 89) (.c (.int .u32 (.ofNat 0))), some (82, false)⟩,
  ⟨some 91, .pick (.t 82) (.c (.bool true)) (.t 90), none⟩,
  ⟨some 4, .mv (.t 91), none⟩]
@[simp] def f167r19 : List ROper := [
  ⟨some 92, .mv (.t 1), none⟩,
  ⟨some 93, .faddr 0 (.t 10), none⟩,
  ⟨some 94, .load 1 false (.t 93), none⟩,
  ⟨some 95, .bin .lss (.t 92) (.t 94), none⟩]
@[simp] def f167r20 : List ROper := [
  ⟨some 96, .mv (.t 9), none⟩,
  ⟨some 8, .mv (.t 96), none⟩]
@[simp] def f167r21 : List ROper := [
  ⟨some 97, .mv (.t 9), none⟩,
  ⟨some 98, .bin .add (.t 97) (.c (.int .i64 (.ofNat 1))), none⟩,
  ⟨some 7, .mv (.t 98), none⟩]
def f167B1 : RC := (.seq (.seq (.region f167r14 [0, 1, 7, 8, 58]) (.cond (.t 58) .skip (.exit 2))) (.block 3 (.seq (.region f167r15 [0, 1, 7, 8, 9]) (.seq (.region f167r16 [0, 1, 7, 8, 9, 10]) (.seq (.seq (.region f167r17 [0, 1, 7, 8, 9, 10, 78]) (.cond (.t 78) (.seq (.region f167r18 [4]) .ret) .skip)) (.seq (.region f167r19 [0, 1, 7, 8, 9, 95]) (.cond (.t 95) (.region f167r20 [0, 1, 7, 8]) (.region f167r21 [0, 1, 7, 8]))))))))
def f167L1 : RC := .loop [0, 1, 7, 8] f167B1
@[simp] def f167r22 : List ROper := [
  ⟨some 4, .mv (.c (.bool false)), none⟩]
def f167 : RFunc := ⟨[.t 4], (.seq (.region f167r0 [0, 1]) (.seq (.seq (.region f167r1 [0, 1, 13]) (.cond (.t 13) (.seq (.seq (.region f167r2 [0, 1, 15, 16]) (.block 0 f167L0)) (.seq (.region f167r11 [4]) .ret)) .skip)) (.seq (.region f167r12 [0, 1, 7]) (.seq (.region f167r13 [0, 1, 7, 8]) (.seq (.block 2 f167L1) (.seq (.region f167r22 [4]) .ret)))))), true⟩

def tree : TT := (.node 114 (.node 68 (.node 41 (.node 27 (.node 21 (.node 13 (.leaf 10 (.code f10)) (.node 17 (.leaf 13 (.code f13)) (.leaf 17 (.code f17)))) (.node 23 (.leaf 21 (.code f21)) (.node 26 (.leaf 23 (.code f23)) (.leaf 26 (.code f26))))) (.node 30 (.node 28 (.leaf 27 (.code f27)) (.node 29 (.leaf 28 (.code f28)) (.leaf 29 (.code f29)))) (.node 32 (.node 31 (.leaf 30 (.code f30)) (.leaf 31 (.code f31))) (.node 40 (.leaf 32 (.code f32)) (.leaf 40 (.code f40)))))) (.node 56 (.node 44 (.node 42 (.leaf 41 (.code f41)) (.node 43 (.leaf 42 (.code f42)) (.leaf 43 (.code f43)))) (.node 54 (.node 51 (.leaf 44 (.code f44)) (.leaf 51 (.code f51))) (.node 55 (.leaf 54 (.code f54)) (.leaf 55 (.code f55))))) (.node 62 (.node 57 (.leaf 56 (.code f56)) (.node 61 (.leaf 57 (.code f57)) (.leaf 61 (.code f61)))) (.node 64 (.node 63 (.leaf 62 (.code f62)) (.leaf 63 (.code f63))) (.node 65 (.leaf 64 (.prim countByteD)) (.leaf 65 (.code f65))))))) (.node 100 (.node 76 (.node 72 (.node 69 (.leaf 68 (.code f68)) (.node 70 (.leaf 69 (.code f69)) (.leaf 70 (.code f70)))) (.node 73 (.leaf 72 (.prim indexByteD)) (.node 74 (.leaf 73 (.code f73)) (.leaf 74 (.code f74))))) (.node 96 (.node 77 (.leaf 76 (.code f76)) (.node 78 (.leaf 77 (.code f77)) (.leaf 78 (.code f78)))) (.node 98 (.node 97 (.leaf 96 (.code f96)) (.leaf 97 (.code f97))) (.node 99 (.leaf 98 (.code f98)) (.leaf 99 (.code f99)))))) (.node 107 (.node 103 (.node 101 (.leaf 100 (.code f100)) (.node 102 (.leaf 101 (.code f101)) (.leaf 102 (.code f102)))) (.node 105 (.node 104 (.leaf 103 (.code f103)) (.leaf 104 (.code f104))) (.node 106 (.leaf 105 (.code f105)) (.leaf 106 (.code f106))))) (.node 110 (.node 108 (.leaf 107 (.code f107)) (.node 109 (.leaf 108 (.code f108)) (.leaf 109 (.code f109)))) (.node 112 (.node 111 (.leaf 110 (.code f110)) (.leaf 111 (.code f111))) (.node 113 (.leaf 112 (.code f112)) (.leaf 113 (.code f113)))))))) (.node 141 (.node 127 (.node 120 (.node 117 (.node 115 (.leaf 114 (.code f114)) (.node 116 (.leaf 115 (.code f115)) (.leaf 116 (.code f116)))) (.node 118 (.leaf 117 (.code f117)) (.node 119 (.leaf 118 (.code f118)) (.leaf 119 (.code f119))))) (.node 123 (.node 121 (.leaf 120 (.code f120)) (.node 122 (.leaf 121 (.code f121)) (.leaf 122 (.code f122)))) (.node 125 (.node 124 (.leaf 123 (.code f123)) (.leaf 124 (.code f124))) (.node 126 (.leaf 125 (.code f125)) (.leaf 126 (.code f126)))))) (.node 134 (.node 130 (.node 128 (.leaf 127 (.code f127)) (.node 129 (.leaf 128 (.code f128)) (.leaf 129 (.code f129)))) (.node 132 (.node 131 (.leaf 130 (.code f130)) (.leaf 131 (.code f131))) (.node 133 (.leaf 132 (.code f132)) (.leaf 133 (.code f133))))) (.node 137 (.node 135 (.leaf 134 (.code f134)) (.node 136 (.leaf 135 (.code f135)) (.leaf 136 (.code f136)))) (.node 139 (.node 138 (.leaf 137 (.code f137)) (.leaf 138 (.code f138))) (.node 140 (.leaf 139 (.code f139)) (.leaf 140 (.code f140))))))) (.node 154 (.node 147 (.node 144 (.node 142 (.leaf 141 (.code f141)) (.node 143 (.leaf 142 (.code f142)) (.leaf 143 (.code f143)))) (.node 145 (.leaf 144 (.code f144)) (.node 146 (.leaf 145 (.code f145)) (.leaf 146 (.code f146))))) (.node 150 (.node 148 (.leaf 147 (.code f147)) (.node 149 (.leaf 148 (.code f148)) (.leaf 149 (.code f149)))) (.node 152 (.node 151 (.leaf 150 (.code f150)) (.leaf 151 (.code f151))) (.node 153 (.leaf 152 (.code f152)) (.leaf 153 (.code f153)))))) (.node 161 (.node 157 (.node 155 (.leaf 154 (.code f154)) (.node 156 (.leaf 155 (.code f155)) (.leaf 156 (.code f156)))) (.node 159 (.node 158 (.leaf 157 (.code f157)) (.leaf 158 (.code f158))) (.node 160 (.leaf 159 (.code f159)) (.leaf 160 (.code f160))))) (.node 164 (.node 162 (.leaf 161 (.code f161)) (.node 163 (.leaf 162 (.code f162)) (.leaf 163 (.code f163)))) (.node 166 (.node 165 (.leaf 164 (.code f164)) (.leaf 165 (.code f165))) (.node 167 (.leaf 166 (.code f166)) (.leaf 167 (.code f167)))))))))

def fms : List (Nat × FuncId) := [(10, 40), (13, 53), (17, 62), (21, 73), (23, 61), (26, 25), (27, 54), (28, 17), (29, 55), (30, 56), (31, 57), (32, 58), (40, 65), (41, 66), (42, 67), (43, 68), (44, 69), (51, 81), (54, 70), (55, 71), (56, 72), (57, 74), (61, 85), (62, 86), (63, 87), (64, 88), (65, 89), (68, 90), (69, 91), (70, 92), (72, 100), (73, 101), (74, 102), (75, 106), (76, 107), (77, 108), (78, 111), (96, 3), (97, 4), (98, 5), (99, 6), (100, 7), (101, 8), (102, 9), (103, 10), (104, 11), (105, 12), (106, 13), (107, 14), (108, 15), (109, 16), (110, 18), (111, 19), (112, 20), (113, 21), (114, 22), (115, 23), (116, 24), (117, 26), (118, 27), (119, 28), (120, 29), (121, 30), (122, 31), (123, 32), (124, 33), (125, 34), (126, 35), (127, 36), (128, 37), (129, 38), (130, 39), (131, 41), (132, 42), (133, 43), (134, 44), (135, 45), (136, 46), (137, 47), (138, 48), (139, 49), (140, 50), (141, 51), (142, 52), (143, 59), (144, 60), (145, 63), (146, 64), (147, 75), (148, 76), (149, 77), (150, 78), (151, 79), (152, 80), (153, 82), (154, 83), (155, 84), (156, 93), (157, 94), (158, 95), (159, 96), (160, 97), (161, 98), (162, 99), (163, 103), (164, 104), (165, 105), (166, 109), (167, 110)]

def env : List (Nat × List Nat) := [(0, asciiSpaceL)]

end Go.D.Tab
