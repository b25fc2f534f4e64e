/-
The code of what the laws reach, as a table of the small language. Printed by wip/gen.
-/
import Derived.Test.YtpmjmbpcdacamaaTab0
namespace Go.D.Tab

/-! quire/quireref16.columns -/
@[simp] def f619r0 : List ROper := [
  ⟨some 1, .box 2 (.t 0), none⟩,
  ⟨some 2, .mv (.c (.list 0 0 .no false [])), none⟩,
  ⟨some 3, .mv (.c (.list 0 0 .no false [])), none⟩]
@[simp] def f619r1 : List ROper := [
  ⟨some 10, .faddr 0 (.t 1), none⟩,
  ⟨some 11, .load 1 false (.t 10), none⟩,
  ⟨some 12, .mkslice 1 false 8 [(.int .i64 (.ofNat 0))] (.t 11) (.t 11), none⟩,
  ⟨some 13, .faddr 0 (.t 1), none⟩,
  ⟨some 14, .load 1 false (.t 13), none⟩,
  ⟨some 15, .mkslice 1 false 8 [(.int .i64 (.ofNat 0))] (.t 14) (.t 14), none⟩,
  ⟨some 4, .mv (.t 12), none⟩,
  ⟨some 5, .mv (.t 15), none⟩]
@[simp] def f619r2 : List ROper := [
  ⟨some 6, .mv (.c (.int .i64 (.ofNat 0))), none⟩]
@[simp] def f619r3 : List ROper := [
  ⟨some 16, .mv (.t 6), none⟩,
  ⟨some 17, .faddr 1 (.t 1), none⟩,
  ⟨some 18, .load 1 false (.t 17), none⟩,
  ⟨some 19, .len .slice (.t 18), none⟩,
  ⟨some 20, .bin .lss (.t 16) (.t 19), none⟩]
@[simp] def f619r4 : List ROper := [
  ⟨some 24, .faddr 1 (.t 1), none⟩,
  ⟨some 25, .load 1 false (.t 24), none⟩,
  ⟨some 26, .mv (.t 6), none⟩,
  ⟨some 27, .iaddr 1 (.t 25) (.t 26), none⟩,
  ⟨some 28, .load 1 false (.t 27), none⟩,
  ⟨some 29, .call 621 [(.t 28)], none⟩,
  ⟨some 23, .mv (.t 29), none⟩,
  ⟨some 30, .extract (.t 23) 0, none⟩,
  ⟨some 31, .extract (.t 23) 1, none⟩,
  ⟨some 7, .mv (.t 30), none⟩,
  ⟨some 8, .mv (.t 31), none⟩]
@[simp] def f619r5 : List ROper := [
  ⟨some 32, .mv (.t 6), none⟩,
  ⟨some 33, .faddr 0 (.t 1), none⟩,
  ⟨some 34, .load 1 false (.t 33), none⟩,
  ⟨some 35, .bin .rem (.t 32) (.t 34), none⟩,
  ⟨some 9, .mv (.t 35), none⟩]
@[simp] def f619r6 : List ROper := [
  ⟨some 36, .mv (.t 4), none⟩,
  ⟨some 37, .mv (.t 9), none⟩,
  ⟨some 38, .mv (.t 4), none⟩,
  ⟨some 39, .mv (.t 9), none⟩,
  ⟨some 40, .iaddr 1 (.t 38) (.t 39), none⟩,
  ⟨some 41, .load 1 false (.t 40), none⟩,
  ⟨some 42, .mv (.t 7), none⟩,
  ⟨some 43, .bin .add (.t 42) (.c (.int .i64 (.ofNat 4))), none⟩,
  ⟨some 44, .max [(.t 41), (.t 43)], none⟩,
  ⟨some 45, .iaddr 1 (.t 36) (.t 37), none⟩,
  ⟨none, .store 1 (.t 45) (.t 44), none⟩]
@[simp] def f619r7 : List ROper := [
  ⟨some 46, .mv (.t 5), none⟩,
  ⟨some 47, .mv (.t 9), none⟩,
  ⟨some 48, .mv (.t 5), none⟩,
  ⟨some 49, .mv (.t 9), none⟩,
  ⟨some 50, .iaddr 1 (.t 48) (.t 49), none⟩,
  ⟨some 51, .load 1 false (.t 50), none⟩,
  ⟨some 52, .mv (.t 8), none⟩,
  ⟨some 53, .bin .add (.t 52) (.c (.int .i64 (.ofNat 4))), none⟩,
  ⟨some 54, .max [(.t 51), (.t 53)], none⟩,
  ⟨some 55, .iaddr 1 (.t 46) (.t 47), none⟩,
  ⟨none, .store 1 (.t 55) (.t 54), none⟩]
@[simp] def f619r8 : List ROper := [
  ⟨some 21, .mv (.t 6), none⟩,
  ⟨some 22, .bin .add (.t 21) (.c (.int .i64 (.ofNat 1))), none⟩,
  ⟨some 6, .mv (.t 22), none⟩]
def f619B0 : RC := (.seq (.seq (.region f619r3 [1, 4, 5, 6, 20]) (.cond (.t 20) .skip (.exit 0))) (.seq (.block 1 (.seq (.region f619r4 [1, 4, 5, 6, 7, 8]) (.seq (.region f619r5 [1, 4, 5, 6, 7, 8, 9]) (.seq (.region f619r6 [1, 4, 5, 6, 8, 9]) (.region f619r7 [1, 4, 5, 6]))))) (.region f619r8 [1, 4, 5, 6])))
def f619L0 : RC := .loop [1, 4, 5, 6] f619B0
@[simp] def f619r9 : List ROper := [
  ⟨some 56, .mv (.t 4), none⟩,
  ⟨some 57, .mv (.t 5), none⟩,
  ⟨some 2, .mv (.t 56), none⟩,
  ⟨some 3, .mv (.t 57), none⟩]
def f619 : RFunc := ⟨[.t 2, .t 3], (.seq (.region f619r0 [1]) (.seq (.dregion f619r1 [2, 5] [] [1, 4, 5]) (.seq (.seq (.region f619r2 [1, 4, 5, 6]) (.block 0 f619L0)) (.seq (.region f619r9 [2, 3]) .ret)))), true⟩

/-! quire/quireref16.sum -/
@[simp] def f620r0 : List ROper := [
  ⟨some 4, .mv (.c (.int .i64 (.ofNat 0))), none⟩]
@[simp] def f620r1 : List ROper := [
  ⟨some 5, .mv (.c (.int .i64 (.ofNat 0))), none⟩]
@[simp] def f620r2 : List ROper := [
  ⟨some 6, .mv (.c (.int .i64 (.ofNat 0))), none⟩]
@[simp] def f620r3 : List ROper := [
  ⟨some 7, .mv (.t 6), none⟩,
  ⟨some 8, .mv (.t 1), none⟩,
  ⟨some 9, .bin .lss (.t 7) (.t 8), none⟩]
@[simp] def f620r4 : List ROper := [
  ⟨some 12, .mv (.t 5), none⟩,
  ⟨some 13, .mv (.t 0), none⟩,
  ⟨some 14, .mv (.t 6), none⟩,
  ⟨some 15, .iaddr 1 (.t 13) (.t 14), none⟩,
  ⟨some 16, .load 1 false (.t 15), none⟩,
  ⟨some 17, .bin .add (.t 12) (.t 16), none⟩,
  ⟨some 5, .mv (.t 17), none⟩]
@[simp] def f620r5 : List ROper := [
  ⟨some 10, .mv (.t 6), none⟩,
  ⟨some 11, .bin .add (.t 10) (.c (.int .i64 (.ofNat 1))), none⟩,
  ⟨some 6, .mv (.t 11), none⟩]
def f620B0 : RC := (.seq (.seq (.region f620r3 [0, 1, 5, 6, 9]) (.cond (.t 9) .skip (.exit 0))) (.seq (.block 1 (.region f620r4 [0, 1, 5, 6])) (.region f620r5 [0, 1, 5, 6])))
def f620L0 : RC := .loop [0, 1, 5, 6] f620B0
@[simp] def f620r6 : List ROper := [
  ⟨some 18, .mv (.t 5), none⟩,
  ⟨some 4, .mv (.t 18), none⟩]
def f620 : RFunc := ⟨[.t 4], (.seq (.region f620r0 [0, 1]) (.seq (.region f620r1 [0, 1, 5]) (.seq (.seq (.region f620r2 [0, 1, 5, 6]) (.block 0 f620L0)) (.seq (.region f620r6 [4]) .ret)))), true⟩

/-! quire/quireref16.sides -/
@[simp] def f621r0 : List ROper := [
  ⟨some 2, .mv (.c (.int .i64 (.ofNat 0))), none⟩,
  ⟨some 3, .mv (.c (.int .i64 (.ofNat 0))), none⟩]
@[simp] def f621r1 : List ROper := [
  ⟨some 10, .mv (.t 0), none⟩,
  ⟨some 11, .call 613 [(.t 10)], none⟩,
  ⟨some 12, .call 11 [(.t 11)], none⟩,
  ⟨some 9, .mv (.t 12), none⟩,
  ⟨some 13, .extract (.t 9) 0, none⟩,
  ⟨some 14, .extract (.t 9) 1, none⟩,
  ⟨some 4, .mv (.t 13), none⟩,
  ⟨some 5, .mv (.t 14), none⟩]
@[simp] def f621r2 : List ROper := [
  ⟨some 6, .mv (.c (.int .i64 (.ofNat 0))), none⟩]
@[simp] def f621r3 : List ROper := [
  ⟨some 7, .mv (.c (.int .i64 (.ofNat 0))), none⟩]
@[simp] def f621r4 : List ROper := [
  ⟨some 15, .mv (.t 7), none⟩,
  ⟨some 16, .mv (.t 4), none⟩,
  ⟨some 17, .len .slice (.t 16), none⟩,
  ⟨some 18, .bin .lss (.t 15) (.t 17), none⟩]
@[simp] def f621r5 : List ROper := [
  ⟨some 21, .mv (.t 7), none⟩,
  ⟨some 22, .bin .add (.t 21) (.c (.int .i64 (.ofNat 1))), none⟩,
  ⟨some 8, .mv (.t 22), none⟩]
@[simp] def f621r6 : List ROper := [
  ⟨some 23, .mv (.t 8), none⟩,
  ⟨some 24, .mv (.t 4), none⟩,
  ⟨some 25, .len .slice (.t 24), none⟩,
  ⟨some 26, .bin .leq (.t 23) (.t 25), none⟩,
  ⟨some 27, .mv (.t 26), none⟩,
  ⟨some 28, .mv (.t 4), some (27, true)⟩,
  ⟨some 29, .mv (.t 8), some (27, true)⟩,
  ⟨some 30, .bin .sub (.t 29) (.c (.int .i64 (.ofNat 1))), some (27, true)⟩,
  ⟨some 31, .iaddr 6 (.t 28) (.t 30), some (27, true)⟩,
  ⟨some 32, .faddr 2 (.t 31), some (27, true)⟩,
  ⟨some 33, .load 1 false (.t 32), some (27, true)⟩,
  ⟨some 34, .bin .neq (.t 33) (.c (.int .i64 (.ofNat 3))), some (27, true)⟩,
  ⟨some 35, .pick (.t 27) (.t 34) (.c (.bool false)), none⟩]
@[simp] def f621r7 : List ROper := [
  ⟨some 38, .mv (.t 6), none⟩,
  ⟨some 39, .mv (.t 4), none⟩,
  ⟨some 40, .mv (.t 7), none⟩,
  ⟨some 41, .mv (.t 8), none⟩,
  ⟨some 42, .call 53 [(.t 39), (.t 40), (.t 41)], none⟩,
  ⟨some 43, .max [(.t 38), (.t 42)], none⟩,
  ⟨some 6, .mv (.t 43), none⟩]
@[simp] def f621r8 : List ROper := [
  ⟨some 36, .mv (.t 8), none⟩,
  ⟨some 37, .bin .add (.t 36) (.c (.int .i64 (.ofNat 1))), none⟩,
  ⟨some 8, .mv (.t 37), none⟩]
def f621B0 : RC := (.seq (.seq (.region f621r6 [4, 6, 7, 8, 35]) (.cond (.t 35) .skip (.exit 2))) (.seq (.block 3 (.region f621r7 [4, 6, 7, 8])) (.region f621r8 [4, 6, 7, 8])))
def f621L0 : RC := .loop [4, 6, 7, 8] f621B0
@[simp] def f621r9 : List ROper := [
  ⟨some 19, .mv (.t 7), none⟩,
  ⟨some 20, .bin .add (.t 19) (.c (.int .i64 (.ofNat 1))), none⟩,
  ⟨some 7, .mv (.t 20), none⟩]
def f621B1 : RC := (.seq (.seq (.region f621r4 [4, 6, 7, 18]) (.cond (.t 18) .skip (.exit 0))) (.seq (.block 1 (.seq (.region f621r5 [4, 6, 7, 8]) (.block 2 f621L0))) (.region f621r9 [4, 6, 7])))
def f621L1 : RC := .loop [4, 6, 7] f621B1
@[simp] def f621r10 : List ROper := [
  ⟨some 44, .mv (.t 6), none⟩,
  ⟨some 45, .mv (.t 4), none⟩,
  ⟨some 46, .mv (.t 4), none⟩,
  ⟨some 47, .len .slice (.t 46), none⟩,
  ⟨some 48, .call 53 [(.t 45), (.c (.int .i64 (.ofNat 0))), (.t 47)], none⟩,
  ⟨some 2, .mv (.t 44), none⟩,
  ⟨some 3, .mv (.t 48), none⟩]
def f621 : RFunc := ⟨[.t 2, .t 3], (.seq (.region f621r0 [0]) (.seq (.region f621r1 [4]) (.seq (.region f621r2 [4, 6]) (.seq (.seq (.region f621r3 [4, 6, 7]) (.block 0 f621L1)) (.seq (.region f621r10 [2, 3]) .ret))))), true⟩

def tree : TT := (.node 63 (.node 41 (.node 30 (.node 21 (.node 13 (.node 11 (.leaf 10 (.code f10)) (.leaf 11 (.code f11))) (.node 14 (.leaf 13 (.code f13)) (.node 15 (.leaf 14 (.code f14)) (.leaf 15 (.code f15))))) (.node 23 (.node 22 (.leaf 21 (.code f21)) (.leaf 22 (.code f22))) (.node 27 (.leaf 23 (.code f23)) (.node 29 (.leaf 27 (.code f27)) (.leaf 29 (.code f29)))))) (.node 35 (.node 32 (.node 31 (.leaf 30 (.code f30)) (.leaf 31 (.code f31))) (.node 33 (.leaf 32 (.code f32)) (.node 34 (.leaf 33 (.code f33)) (.leaf 34 (.code f34))))) (.node 38 (.node 36 (.leaf 35 (.code f35)) (.node 37 (.leaf 36 (.code f36)) (.leaf 37 (.code f37)))) (.node 39 (.leaf 38 (.code f38)) (.node 40 (.leaf 39 (.code f39)) (.leaf 40 (.code f40))))))) (.node 52 (.node 46 (.node 43 (.node 42 (.leaf 41 (.code f41)) (.leaf 42 (.code f42))) (.node 44 (.leaf 43 (.code f43)) (.node 45 (.leaf 44 (.code f44)) (.leaf 45 (.code f45))))) (.node 48 (.node 47 (.leaf 46 (.code f46)) (.leaf 47 (.code f47))) (.node 49 (.leaf 48 (.code f48)) (.node 50 (.leaf 49 (.code f49)) (.leaf 50 (.code f50)))))) (.node 57 (.node 54 (.node 53 (.leaf 52 (.code f52)) (.leaf 53 (.code f53))) (.node 55 (.leaf 54 (.code f54)) (.node 56 (.leaf 55 (.code f55)) (.leaf 56 (.code f56))))) (.node 60 (.node 58 (.leaf 57 (.code f57)) (.node 59 (.leaf 58 (.code f58)) (.leaf 59 (.code f59)))) (.node 61 (.leaf 60 (.code f60)) (.node 62 (.leaf 61 (.code f61)) (.leaf 62 (.code f62)))))))) (.node 455 (.node 73 (.node 68 (.node 65 (.node 64 (.leaf 63 (.code f63)) (.leaf 64 (.prim countByteD))) (.node 66 (.leaf 65 (.code f65)) (.node 67 (.leaf 66 (.code f66)) (.leaf 67 (.code f67))))) (.node 70 (.node 69 (.leaf 68 (.code f68)) (.leaf 69 (.code f69))) (.node 71 (.leaf 70 (.code f70)) (.node 72 (.leaf 71 (.code f71)) (.leaf 72 (.prim indexByteD)))))) (.node 182 (.node 76 (.node 74 (.leaf 73 (.code f73)) (.leaf 74 (.code f74))) (.node 77 (.leaf 76 (.code f76)) (.node 78 (.leaf 77 (.code f77)) (.leaf 78 (.code f78))))) (.node 430 (.node 184 (.leaf 182 (.code f182)) (.node 187 (.leaf 184 (.code f184)) (.leaf 187 (.code f187)))) (.node 453 (.leaf 430 (.code f430)) (.node 454 (.leaf 453 (.code f453)) (.leaf 454 (.code f454))))))) (.node 610 (.node 476 (.node 458 (.node 456 (.leaf 455 (.code f455)) (.leaf 456 (.code f456))) (.node 469 (.leaf 458 (.code f458)) (.node 470 (.leaf 469 (.code f469)) (.leaf 470 (.code f470))))) (.node 607 (.node 603 (.leaf 476 (.code f476)) (.node 606 (.leaf 603 (.code f603)) (.leaf 606 (.code f606)))) (.node 608 (.leaf 607 (.code f607)) (.node 609 (.leaf 608 (.code f608)) (.leaf 609 (.code f609)))))) (.node 615 (.node 612 (.node 611 (.leaf 610 (.code f610)) (.leaf 611 (.code f611))) (.node 613 (.leaf 612 (.code f612)) (.node 614 (.leaf 613 (.code f613)) (.leaf 614 (.code f614))))) (.node 619 (.node 616 (.leaf 615 (.code f615)) (.node 617 (.leaf 616 (.code f616)) (.leaf 617 (.code f617)))) (.node 620 (.leaf 619 (.code f619)) (.node 621 (.leaf 620 (.code f620)) (.leaf 621 (.code f621)))))))))

def fms : List (Nat × FuncId) := [(10, 49), (11, 51), (13, 55), (14, 61), (15, 16), (21, 77), (22, 85), (23, 50), (27, 56), (29, 57), (30, 58), (31, 59), (32, 60), (33, 62), (34, 63), (35, 64), (36, 65), (37, 66), (38, 67), (39, 68), (40, 69), (41, 70), (42, 71), (43, 72), (44, 73), (45, 79), (430, 11), (46, 80), (47, 81), (48, 82), (49, 32), (50, 33), (52, 98), (53, 52), (54, 74), (182, 26), (55, 75), (184, 20), (56, 76), (57, 78), (58, 83), (187, 13), (59, 84), (60, 86), (61, 87), (62, 88), (63, 89), (64, 90), (65, 91), (66, 95), (67, 96), (68, 92), (69, 93), (453, 14), (70, 94), (454, 27), (455, 29), (71, 97), (456, 30), (72, 99), (73, 100), (74, 101), (458, 17), (75, 102), (76, 103), (77, 104), (78, 105), (469, 40), (470, 41), (603, 3), (476, 48), (606, 6), (607, 7), (608, 8), (609, 9), (610, 10), (611, 12), (612, 15), (613, 18), (614, 19), (615, 21), (616, 22), (617, 24), (619, 28), (620, 31), (621, 42), (100430, 11), (100609, 9)]

def env : List (Nat × List Nat) := []

end Go.D.Tab
