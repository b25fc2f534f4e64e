/-
The code of what the laws reach, as a table of the small language. Printed by wip/gen.
-/
import Derived.Test.YtdhpdhagnbdhoaaGreatDoorTab1
namespace Go.D.Tab

/-! quire/grid.both -/
def f454r0 : List ROper := [
  ⟨some 1, .box 2 (.t 0), none⟩,
  ⟨some 2, .mv (.c (.list 0 0 .no false [])), none⟩,
  ⟨some 3, .mv (.c (.list 0 0 .no false [])), none⟩]
def f454r1 : List ROper := [
  ⟨some 12, .faddr 0 (.t 1), none⟩,
  ⟨some 13, .load 1 false (.t 12), none⟩,
  ⟨some 14, .mkslice 1 false 8 [(.int .i64 (.ofNat 0))] (.t 13) (.t 13), none⟩,
  ⟨some 15, .faddr 0 (.t 1), none⟩,
  ⟨some 16, .load 1 false (.t 15), none⟩,
  ⟨some 17, .mkslice 1 false 8 [(.int .i64 (.ofNat 0))] (.t 16) (.t 16), none⟩,
  ⟨some 4, .alloc [(.list 0 0 .no false [])], none⟩,
  ⟨some 5, .alloc [(.list 0 0 .no false [])], none⟩,
  ⟨none, .store 1 (.t 4) (.t 14), none⟩,
  ⟨none, .store 1 (.t 5) (.t 17), none⟩]
def f454r2 : List ROper := [
  ⟨some 18, .load 2 true (.t 1), none⟩,
  ⟨some 19, .call 469 [(.t 18)], none⟩]
def f454r3 : List ROper := [
  ⟨some 6, .mv (.t 20), none⟩]
def f454r4 : List ROper := [
  ⟨some 7, .mv (.t 21), none⟩]
def f454r5 : List ROper := [
  ⟨some 22, .mv (.t 7), none⟩,
  ⟨some 23, .len .slice (.t 22), none⟩,
  ⟨some 24, .mv (.c (.int .i64 (.ofNat 0))), none⟩]
def f454r6 : List ROper := [
  ⟨some 25, .bin .lss (.t 24) (.t 23), none⟩]
def f454r7 : List ROper := [
  ⟨some 26, .iaddr 1 (.t 22) (.t 24), none⟩,
  ⟨some 27, .load 1 false (.t 26), none⟩,
  ⟨some 9, .mv (.t 27), none⟩]
def f454r8 : List ROper := [
  ⟨some 29, .mv (.t 9), none⟩,
  ⟨some 30, .call 470 [(.t 29)], none⟩,
  ⟨some 28, .mv (.t 30), none⟩,
  ⟨some 31, .extract (.t 28) 0, none⟩,
  ⟨some 32, .extract (.t 28) 1, none⟩,
  ⟨some 10, .mv (.t 31), none⟩,
  ⟨some 11, .mv (.t 32), none⟩]
def f454r9 : List ROper := [
  ⟨some 33, .load 1 false (.t 4), none⟩,
  ⟨some 34, .mv (.t 6), none⟩,
  ⟨some 35, .load 1 false (.t 5), none⟩,
  ⟨some 36, .mv (.t 6), none⟩,
  ⟨some 37, .load 1 false (.t 4), none⟩,
  ⟨some 38, .mv (.t 6), none⟩,
  ⟨some 39, .iaddr 1 (.t 37) (.t 38), none⟩,
  ⟨some 40, .load 1 false (.t 39), none⟩,
  ⟨some 41, .mv (.t 10), none⟩,
  ⟨some 42, .max [(.t 40), (.t 41)], none⟩,
  ⟨some 43, .load 1 false (.t 5), none⟩,
  ⟨some 44, .mv (.t 6), none⟩,
  ⟨some 45, .iaddr 1 (.t 43) (.t 44), none⟩,
  ⟨some 46, .load 1 false (.t 45), none⟩,
  ⟨some 47, .mv (.t 11), none⟩,
  ⟨some 48, .max [(.t 46), (.t 47)], none⟩,
  ⟨some 49, .iaddr 1 (.t 33) (.t 34), none⟩,
  ⟨none, .store 1 (.t 49) (.t 42), none⟩,
  ⟨some 50, .iaddr 1 (.t 35) (.t 36), none⟩,
  ⟨none, .store 1 (.t 50) (.t 48), none⟩]
def f454r10 : List ROper := [
  ⟨some 51, .bin .add (.t 24) (.c (.int .i64 (.ofNat 1))), none⟩,
  ⟨some 24, .mv (.t 51), none⟩]
def f454r11 : List ROper := [
  ⟨some 52, .load 1 false (.t 4), none⟩,
  ⟨some 53, .mv (.t 6), none⟩,
  ⟨some 54, .iaddr 1 (.t 52) (.t 53), none⟩,
  ⟨some 55, .load 1 false (.t 54), none⟩,
  ⟨some 56, .bin .add (.t 55) (.c (.int .i64 (.ofNat 4))), none⟩,
  ⟨some 57, .iaddr 1 (.t 52) (.t 53), none⟩,
  ⟨none, .store 1 (.t 57) (.t 56), none⟩]
def f454r12 : List ROper := [
  ⟨some 58, .load 1 false (.t 5), none⟩,
  ⟨some 59, .mv (.t 6), none⟩,
  ⟨some 60, .iaddr 1 (.t 58) (.t 59), none⟩,
  ⟨some 61, .load 1 false (.t 60), none⟩,
  ⟨some 62, .bin .add (.t 61) (.c (.int .i64 (.ofNat 4))), none⟩,
  ⟨some 63, .iaddr 1 (.t 58) (.t 59), none⟩,
  ⟨none, .store 1 (.t 63) (.t 62), none⟩]
def f454r13 : List ROper := [
  ⟨some 64, .load 1 false (.t 4), none⟩,
  ⟨some 65, .load 1 false (.t 5), none⟩,
  ⟨some 2, .mv (.t 64), none⟩,
  ⟨some 3, .mv (.t 65), none⟩]
def f454 : RFunc := ⟨[.t 2, .t 3], (.seq (.region f454r0 [1]) (.seq (.dregion f454r1 [2, 5, 6, 7] [(4, [1])] [1, 4, 5]) (.seq (.seq (.region f454r2 [4, 5, 19]) (.block 0 (.rfunc (.t 19) [20, 21] (.seq (.region f454r3 [4, 5, 6, 21]) (.region f454r4 [4, 5, 6, 7])) (.block 1 (.seq (.seq (.region f454r5 [4, 5, 6, 22, 23, 24]) (.block 2 (.loop [4, 5, 6, 22, 23, 24] (.seq (.region f454r6 [4, 5, 6, 22, 23, 24, 25]) (.seq (.cond (.t 25) .skip (.exit 2)) (.seq (.block 3 (.seq (.region f454r7 [4, 5, 6, 9, 22, 23, 24]) (.seq (.region f454r8 [4, 5, 6, 10, 11, 22, 23, 24]) (.dregion f454r9 [] [(2, [1])] [4, 5, 6, 22, 23, 24])))) (.region f454r10 [4, 5, 6, 22, 23, 24]))))))) (.seq (.region f454r11 [5, 6]) (.region f454r12 [])))) [4, 5, 19]))) (.seq (.dregion f454r13 [] [] [2, 3]) .ret)))), true⟩

/-! quire/grid.sum -/
def f455r0 : List ROper := [
  ⟨some 2, .mv (.c (.int .i64 (.ofNat 0))), none⟩]
def f455r1 : List ROper := [
  ⟨some 3, .mv (.c (.int .i64 (.ofNat 0))), none⟩]
def f455r2 : List ROper := [
  ⟨some 6, .mv (.t 0), none⟩,
  ⟨some 7, .len .slice (.t 6), none⟩,
  ⟨some 8, .mv (.c (.int .i64 (.ofNat 0))), none⟩]
def f455r3 : List ROper := [
  ⟨some 9, .bin .lss (.t 8) (.t 7), none⟩]
def f455r4 : List ROper := [
  ⟨some 10, .iaddr 1 (.t 6) (.t 8), none⟩,
  ⟨some 11, .load 1 false (.t 10), none⟩,
  ⟨some 5, .mv (.t 11), none⟩]
def f455r5 : List ROper := [
  ⟨some 12, .mv (.t 3), none⟩,
  ⟨some 13, .mv (.t 5), none⟩,
  ⟨some 14, .bin .add (.t 12) (.t 13), none⟩,
  ⟨some 3, .mv (.t 14), none⟩]
def f455r6 : List ROper := [
  ⟨some 15, .bin .add (.t 8) (.c (.int .i64 (.ofNat 1))), none⟩,
  ⟨some 8, .mv (.t 15), none⟩]
def f455r7 : List ROper := [
  ⟨some 16, .mv (.t 3), none⟩,
  ⟨some 2, .mv (.t 16), none⟩]
def f455 : RFunc := ⟨[.t 2], (.seq (.region f455r0 [0]) (.seq (.region f455r1 [0, 3]) (.seq (.seq (.region f455r2 [3, 6, 7, 8]) (.block 0 (.loop [3, 6, 7, 8] (.seq (.region f455r3 [3, 6, 7, 8, 9]) (.seq (.cond (.t 9) .skip (.exit 0)) (.seq (.block 1 (.seq (.region f455r4 [3, 5, 6, 7, 8]) (.region f455r5 [3, 6, 7, 8]))) (.region f455r6 [3, 6, 7, 8]))))))) (.seq (.region f455r7 [2]) .ret)))), true⟩

/-! (*quire/grid.share).next -/
def f456r0 : List ROper := [
  ⟨some 4, .mv (.c (.int .i64 (.ofNat 0))), none⟩]
def f456r1 : List ROper := [
  ⟨some 6, .mv (.t 0), none⟩,
  ⟨some 7, .nilchk (.t 6), none⟩,
  ⟨some 8, .faddr 3 (.t 7), none⟩,
  ⟨some 9, .load 1 false (.t 8), none⟩,
  ⟨some 10, .mv (.t 1), none⟩,
  ⟨some 11, .bin .add (.t 9) (.t 10), none⟩,
  ⟨some 12, .nilchk (.t 6), none⟩,
  ⟨some 13, .faddr 3 (.t 12), none⟩,
  ⟨none, .store 1 (.t 13) (.t 11), none⟩]
def f456r2 : List ROper := [
  ⟨some 14, .mv (.t 0), none⟩,
  ⟨some 15, .nilchk (.t 14), none⟩,
  ⟨some 16, .faddr 0 (.t 15), none⟩,
  ⟨some 17, .load 1 false (.t 16), none⟩,
  ⟨some 18, .mv (.t 0), none⟩,
  ⟨some 19, .nilchk (.t 18), none⟩,
  ⟨some 20, .faddr 3 (.t 19), none⟩,
  ⟨some 21, .load 1 false (.t 20), none⟩,
  ⟨some 22, .bin .mul (.t 17) (.t 21), none⟩,
  ⟨some 23, .mv (.t 0), none⟩,
  ⟨some 24, .nilchk (.t 23), none⟩,
  ⟨some 25, .faddr 1 (.t 24), none⟩,
  ⟨some 26, .load 1 false (.t 25), none⟩,
  ⟨some 27, .bin .quo (.t 22) (.t 26), none⟩,
  ⟨some 28, .mv (.t 0), none⟩,
  ⟨some 29, .nilchk (.t 28), none⟩,
  ⟨some 30, .faddr 2 (.t 29), none⟩,
  ⟨some 31, .load 1 false (.t 30), none⟩,
  ⟨some 32, .bin .sub (.t 27) (.t 31), none⟩,
  ⟨some 5, .mv (.t 32), none⟩]
def f456r3 : List ROper := [
  ⟨some 33, .mv (.t 0), none⟩,
  ⟨some 34, .nilchk (.t 33), none⟩,
  ⟨some 35, .faddr 2 (.t 34), none⟩,
  ⟨some 36, .load 1 false (.t 35), none⟩,
  ⟨some 37, .mv (.t 5), none⟩,
  ⟨some 38, .bin .add (.t 36) (.t 37), none⟩,
  ⟨some 39, .nilchk (.t 33), none⟩,
  ⟨some 40, .faddr 2 (.t 39), none⟩,
  ⟨none, .store 1 (.t 40) (.t 38), none⟩]
def f456r4 : List ROper := [
  ⟨some 41, .mv (.t 5), none⟩,
  ⟨some 4, .mv (.t 41), none⟩]
def f456 : RFunc := ⟨[.t 4], (.seq (.region f456r0 [0, 1]) (.seq (.region f456r1 [0]) (.seq (.dregion f456r2 [] [] [0, 5]) (.seq (.region f456r3 [5]) (.seq (.region f456r4 [4]) .ret))))), false⟩

/-! quire/table.cell$1 -/
def f457r0 : List ROper := [
  ⟨some 4, .alloc [(.int .i64 (.ofNat 0)), (.int .i64 (.ofNat 0)), (.list 0 0 .no false [])], none⟩]
def f457r1 : List ROper := [
  ⟨some 8, .mv (.t 0), none⟩,
  ⟨some 9, .call 458 [(.t 8)], none⟩,
  ⟨some 10, .load 1 false (.t 1), none⟩,
  ⟨some 11, .bin .add (.t 10) (.c (.int .i64 (.ofNat 2))), none⟩,
  ⟨some 12, .min [(.t 11), (.c (.int .i64 (.ofNat 4095)))], none⟩,
  ⟨some 13, .load 1 false (.t 2), none⟩,
  ⟨some 14, .bin .sub (.t 13) (.c (.int .i64 (.ofNat 4))), none⟩,
  ⟨some 15, .max [(.t 14), (.c (.int .i64 (.ofNat 0)))], none⟩,
  ⟨some 16, .build [(.int .i64 (.ofNat 0)), (.int .i64 (.ofNat 0))] [(0, 1, (.t 12)), (1, 1, (.t 15))], none⟩,
  ⟨some 17, .call 307 [(.t 9), (.c (.list 0 0 .no false [])), (.t 16)], none⟩,
  ⟨some 7, .mv (.t 17), none⟩,
  ⟨some 18, .extract (.t 7) 0, none⟩,
  ⟨some 19, .extract (.t 7) 1, none⟩,
  ⟨some 5, .mv (.t 18), none⟩,
  ⟨some 6, .mv (.t 19), none⟩]
def f457r2 : List ROper := [
  ⟨some 20, .load 1 false (.t 1), none⟩,
  ⟨some 21, .load 1 false (.t 2), none⟩,
  ⟨some 22, .mv (.t 5), none⟩,
  ⟨some 23, .build [(.int .i64 (.ofNat 0)), (.int .i64 (.ofNat 0)), (.list 0 0 .no false [])] [(0, 1, (.t 20)), (1, 1, (.t 21)), (2, 1, (.t 22))], none⟩,
  ⟨none, .store 3 (.t 4) (.t 23), none⟩]
def f457 : RFunc := ⟨[.cell 4 3 true], (.seq (.region f457r0 [0, 1, 2, 4]) (.seq (.dregion f457r1 [] [] [1, 2, 4, 5]) (.seq (.region f457r2 [4]) .ret))), false⟩

/-! quire/grid.Cell -/
def f458r0 : List ROper := [
  ⟨some 2, .alloc [(.str []), (.list 0 0 .no false []), (.int .i64 (.ofNat 0)), (.int .i64 (.ofNat 0)), (.int .i64 (.ofNat 0)), (.int .i64 (.ofNat 0)), (.int .i64 (.ofNat 0)), (.int .i64 (.ofNat 0)), (.int .i64 (.ofNat 0)), (.int .i64 (.ofNat 0)), (.int .i64 (.ofNat 0)), (.int .i64 (.ofNat 0)), (.int .i64 (.ofNat 0)), (.int .i64 (.ofNat 0)), (.int .i64 (.ofNat 0)), (.int .i64 (.ofNat 0)), (.int .i64 (.ofNat 0)), (.int .i64 (.ofNat 0)), (.int .i64 (.ofNat 0)), (.str []), (.list 0 0 .no false [])], none⟩]
def f458r1 : List ROper := [
  ⟨some 4, .mv (.t 0), none⟩,
  ⟨some 5, .build [(.int .i64 (.ofNat 0)), (.int .i64 (.ofNat 0)), (.int .i64 (.ofNat 0)), (.int .i64 (.ofNat 0)), (.int .i64 (.ofNat 0)), (.int .i64 (.ofNat 0)), (.int .i64 (.ofNat 0)), (.int .i64 (.ofNat 0)), (.int .i64 (.ofNat 0)), (.int .i64 (.ofNat 0)), (.int .i64 (.ofNat 0)), (.int .i64 (.ofNat 0)), (.int .i64 (.ofNat 0)), (.int .i64 (.ofNat 0)), (.int .i64 (.ofNat 0)), (.int .i64 (.ofNat 0)), (.int .i64 (.ofNat 0))] [(0, 1, (.c (.int .i64 (.ofNat 8)))), (1, 1, (.c (.int .i64 (.ofNat 10)))), (10, 1, (.c (.int .i64 (.ofNat 1)))), (11, 1, (.c (.int .i64 (.ofNat 1))))], none⟩,
  ⟨some 6, .build [(.str []), (.list 0 0 .no false []), (.int .i64 (.ofNat 0)), (.int .i64 (.ofNat 0)), (.int .i64 (.ofNat 0)), (.int .i64 (.ofNat 0)), (.int .i64 (.ofNat 0)), (.int .i64 (.ofNat 0)), (.int .i64 (.ofNat 0)), (.int .i64 (.ofNat 0)), (.int .i64 (.ofNat 0)), (.int .i64 (.ofNat 0)), (.int .i64 (.ofNat 0)), (.int .i64 (.ofNat 0)), (.int .i64 (.ofNat 0)), (.int .i64 (.ofNat 0)), (.int .i64 (.ofNat 0)), (.int .i64 (.ofNat 0)), (.int .i64 (.ofNat 0)), (.str []), (.list 0 0 .no false [])] [(0, 1, (.t 4)), (2, 17, (.t 5))], none⟩,
  ⟨some 3, .alloc [(.str []), (.list 0 0 .no false []), (.int .i64 (.ofNat 0)), (.int .i64 (.ofNat 0)), (.int .i64 (.ofNat 0)), (.int .i64 (.ofNat 0)), (.int .i64 (.ofNat 0)), (.int .i64 (.ofNat 0)), (.int .i64 (.ofNat 0)), (.int .i64 (.ofNat 0)), (.int .i64 (.ofNat 0)), (.int .i64 (.ofNat 0)), (.int .i64 (.ofNat 0)), (.int .i64 (.ofNat 0)), (.int .i64 (.ofNat 0)), (.int .i64 (.ofNat 0)), (.int .i64 (.ofNat 0)), (.int .i64 (.ofNat 0)), (.int .i64 (.ofNat 0)), (.str []), (.list 0 0 .no false [])], none⟩,
  ⟨none, .store 21 (.t 3) (.t 6), none⟩]
def f458r2 : List ROper := [
  ⟨some 7, .mv (.t 0), none⟩,
  ⟨some 8, .bin .neq (.t 7) (.c (.str [])), none⟩]
def f458r3 : List ROper := [
  ⟨some 9, .mv (.t 0), none⟩,
  ⟨some 10, .len .str (.t 9), none⟩,
  ⟨some 11, .build [(.int .i64 (.ofNat 0)), (.int .i64 (.ofNat 0)), (.int .i64 (.ofNat 0)), (.int .i64 (.ofNat 0))] [(0, 1, (.t 10))], none⟩,
  ⟨some 12, .lit 4 true [(.int .i64 (.ofNat 0)), (.int .i64 (.ofNat 0)), (.int .i64 (.ofNat 0)), (.int .i64 (.ofNat 0))] 1 [(0, (.t 11))], none⟩,
  ⟨some 13, .faddr 1 (.t 3), none⟩,
  ⟨none, .store 1 (.t 13) (.t 12), none⟩]
def f458r4 : List ROper := [
  ⟨some 14, .load 21 true (.t 3), none⟩,
  ⟨none, .store 21 (.t 2) (.t 14), none⟩]
def f458 : RFunc := ⟨[.cell 2 21 true], (.seq (.region f458r0 [0, 2]) (.seq (.region f458r1 [0, 2, 3]) (.seq (.seq (.region f458r2 [0, 2, 3, 8]) (.cond (.t 8) (.region f458r3 [2, 3]) .skip)) (.seq (.region f458r4 [2]) .ret)))), true⟩

/-! slices.Chunk[[]string,string]$1 -/
def f459r0 : List ROper := [
  ⟨some 4, .mv (.c (.int .i64 (.ofNat 0))), none⟩]
def f459r1 : List ROper := [
  ⟨some 6, .mv (.t 4), none⟩,
  ⟨some 7, .load 1 false (.t 1), none⟩,
  ⟨some 8, .len .slice (.t 7), none⟩,
  ⟨some 9, .bin .lss (.t 6) (.t 8), none⟩]
def f459r2 : List ROper := [
  ⟨some 13, .load 1 false (.t 2), none⟩,
  ⟨some 14, .load 1 false (.t 1), none⟩,
  ⟨some 15, .mv (.t 4), none⟩,
  ⟨some 16, .slice false 1 (.t 14) (some (.t 15)) none none, none⟩,
  ⟨some 17, .len .slice (.t 16), none⟩,
  ⟨some 18, .min [(.t 13), (.t 17)], none⟩,
  ⟨some 5, .mv (.t 18), none⟩]
def f459r3 : List ROper := [
  ⟨some 19, .mv (.t 0), none⟩,
  ⟨some 20, .load 1 false (.t 1), none⟩,
  ⟨some 21, .mv (.t 4), none⟩,
  ⟨some 22, .mv (.t 4), none⟩,
  ⟨some 23, .mv (.t 5), none⟩,
  ⟨some 24, .bin .add (.t 22) (.t 23), none⟩,
  ⟨some 25, .mv (.t 4), none⟩,
  ⟨some 26, .mv (.t 5), none⟩,
  ⟨some 27, .bin .add (.t 25) (.t 26), none⟩,
  ⟨some 28, .slice false 1 (.t 20) (some (.t 21)) (some (.t 24)) (some (.t 27)), none⟩,
  ⟨some 29, .callv (.t 19) [(.t 28)], none⟩,
  ⟨some 30, .un .not (.t 29), none⟩]
def f459r4 : List ROper := [
  ⟨some 10, .mv (.t 4), none⟩,
  ⟨some 11, .load 1 false (.t 2), none⟩,
  ⟨some 12, .bin .add (.t 10) (.t 11), none⟩,
  ⟨some 4, .mv (.t 12), none⟩]
def f459 : RFunc := ⟨[], (.seq (.region f459r0 [0, 1, 2, 4]) (.block 0 (.loop [0, 1, 2, 4] (.seq (.seq (.region f459r1 [0, 1, 2, 4, 9]) (.cond (.t 9) .skip (.exit 0))) (.seq (.block 1 (.seq (.dregion f459r2 [] [] [0, 1, 2, 4, 5]) (.seq (.region f459r3 [0, 1, 2, 4, 30]) (.cond (.t 30) .ret .skip)))) (.region f459r4 [0, 1, 2, 4])))))), false⟩

/-! quire/grid.columns -/
def f469r0 : List ROper := [
  ⟨some 1, .box 2 (.t 0), none⟩,
  ⟨some 2, .mv (.c .nilfn), none⟩]
def f469r1 : List ROper := [
  ⟨some 3, .mkfn 476 [] [(.t 1)], none⟩,
  ⟨some 2, .mv (.t 3), none⟩]
def f469 : RFunc := ⟨[.t 2], (.seq (.region f469r0 [1]) (.seq (.region f469r1 [2]) .ret)), false⟩

/-! quire/grid.widths -/
def f470r0 : List ROper := [
  ⟨some 2, .mv (.c (.int .i64 (.ofNat 0))), none⟩,
  ⟨some 3, .mv (.c (.int .i64 (.ofNat 0))), none⟩]
def f470r1 : List ROper := [
  ⟨some 14, .mv (.t 0), none⟩,
  ⟨some 15, .call 458 [(.t 14)], none⟩,
  ⟨some 16, .call 10 [(.t 15)], none⟩,
  ⟨some 13, .mv (.t 16), none⟩,
  ⟨some 17, .extract (.t 13) 0, none⟩,
  ⟨some 18, .extract (.t 13) 1, none⟩,
  ⟨some 4, .mv (.t 17), none⟩,
  ⟨some 5, .mv (.t 18), none⟩]
def f470r2 : List ROper := [
  ⟨some 20, .mv (.t 4), none⟩,
  ⟨some 21, .mv (.t 4), none⟩,
  ⟨some 22, .len .slice (.t 21), none⟩,
  ⟨some 23, .call 23 [(.t 20), (.c (.int .i64 (.ofNat 0))), (.t 22)], none⟩,
  ⟨some 19, .mv (.t 23), none⟩,
  ⟨some 24, .extract (.t 19) 0, none⟩,
  ⟨some 25, .extract (.t 19) 1, none⟩,
  ⟨some 6, .mv (.t 24), none⟩,
  ⟨some 7, .mv (.t 25), none⟩]
def f470r3 : List ROper := [
  ⟨some 8, .mv (.c (.int .i64 (.ofNat 0))), none⟩,
  ⟨some 9, .mv (.c (.int .i64 (.ofNat 0))), none⟩]
def f470r4 : List ROper := [
  ⟨some 10, .mv (.c (.int .i64 (.ofNat 0))), none⟩]
def f470r5 : List ROper := [
  ⟨some 26, .mv (.t 10), none⟩,
  ⟨some 27, .mv (.t 4), none⟩,
  ⟨some 28, .len .slice (.t 27), none⟩,
  ⟨some 29, .bin .leq (.t 26) (.t 28), none⟩]
def f470r6 : List ROper := [
  ⟨some 32, .mv (.t 10), none⟩,
  ⟨some 33, .mv (.t 4), none⟩,
  ⟨some 34, .len .slice (.t 33), none⟩,
  ⟨some 35, .bin .lss (.t 32) (.t 34), none⟩,
  ⟨some 36, .mv (.t 35), none⟩,
  ⟨some 37, .mv (.t 4), some (36, true)⟩,
  ⟨some 38, .mv (.t 10), some (36, true)⟩,
  ⟨some 39, .iaddr 6 (.t 37) (.t 38), some (36, true)⟩,
  ⟨some 40, .faddr 2 (.t 39), some (36, true)⟩,
  ⟨some 41, .load 1 false (.t 40), some (36, true)⟩,
  ⟨some 42, .bin .neq (.t 41) (.c (.int .i64 (.ofNat 3))), some (36, true)⟩,
  ⟨some 43, .pick (.t 36) (.t 42) (.c (.bool false)), none⟩]
def f470r7 : List ROper := [
  ⟨some 45, .mv (.t 4), none⟩,
  ⟨some 46, .mv (.t 9), none⟩,
  ⟨some 47, .mv (.t 10), none⟩,
  ⟨some 48, .call 23 [(.t 45), (.t 46), (.t 47)], none⟩,
  ⟨some 44, .mv (.t 48), none⟩,
  ⟨some 49, .extract (.t 44) 0, none⟩,
  ⟨some 50, .extract (.t 44) 1, none⟩,
  ⟨some 11, .mv (.t 49), none⟩,
  ⟨some 12, .mv (.t 50), none⟩]
def f470r8 : List ROper := [
  ⟨some 51, .mv (.t 8), none⟩,
  ⟨some 52, .mv (.t 11), none⟩,
  ⟨some 53, .max [(.t 51), (.t 52)], none⟩,
  ⟨some 8, .mv (.t 53), none⟩]
def f470r9 : List ROper := [
  ⟨some 54, .mv (.t 10), none⟩,
  ⟨some 55, .bin .add (.t 54) (.c (.int .i64 (.ofNat 1))), none⟩,
  ⟨some 9, .mv (.t 55), none⟩]
def f470r10 : List ROper := [
  ⟨some 30, .mv (.t 10), none⟩,
  ⟨some 31, .bin .add (.t 30) (.c (.int .i64 (.ofNat 1))), none⟩,
  ⟨some 10, .mv (.t 31), none⟩]
def f470r11 : List ROper := [
  ⟨some 56, .mv (.t 8), none⟩,
  ⟨some 57, .mv (.t 6), none⟩,
  ⟨some 2, .mv (.t 56), none⟩,
  ⟨some 3, .mv (.t 57), none⟩]
def f470 : RFunc := ⟨[.t 2, .t 3], (.seq (.region f470r0 [0]) (.seq (.region f470r1 [4]) (.seq (.region f470r2 [4, 6]) (.seq (.region f470r3 [4, 6, 8, 9]) (.seq (.seq (.region f470r4 [4, 6, 8, 9, 10]) (.block 0 (.loop [4, 6, 8, 9, 10] (.seq (.seq (.region f470r5 [4, 6, 8, 9, 10, 29]) (.cond (.t 29) .skip (.exit 0))) (.seq (.block 1 (.seq (.seq (.region f470r6 [4, 6, 8, 9, 10, 43]) (.cond (.t 43) (.exit 1) .skip)) (.seq (.region f470r7 [4, 6, 8, 10, 11]) (.seq (.region f470r8 [4, 6, 8, 10]) (.region f470r9 [4, 6, 8, 9, 10]))))) (.region f470r10 [4, 6, 8, 9, 10])))))) (.seq (.region f470r11 [2, 3]) .ret)))))), true⟩

/-! quire/grid.columns$1 -/
def f476r0 : List ROper := [
  ⟨some 6, .faddr 0 (.t 1), none⟩,
  ⟨some 7, .load 1 false (.t 6), none⟩,
  ⟨some 8, .mv (.c (.int .i64 (.ofNat 0))), none⟩]
def f476r1 : List ROper := [
  ⟨some 9, .bin .lss (.t 8) (.t 7), none⟩]
def f476r2 : List ROper := [
  ⟨some 10, .mv (.t 8), none⟩,
  ⟨some 3, .mv (.t 10), none⟩]
def f476r3 : List ROper := [
  ⟨some 4, .mv (.c (.list 0 0 .no false [])), none⟩]
def f476r4 : List ROper := [
  ⟨some 11, .mv (.t 3), none⟩,
  ⟨some 5, .mv (.t 11), none⟩]
def f476r5 : List ROper := [
  ⟨some 12, .mv (.t 5), none⟩,
  ⟨some 13, .faddr 1 (.t 1), none⟩,
  ⟨some 14, .load 1 false (.t 13), none⟩,
  ⟨some 15, .len .slice (.t 14), none⟩,
  ⟨some 16, .bin .lss (.t 12) (.t 15), none⟩]
def f476r6 : List ROper := [
  ⟨some 21, .mv (.t 4), none⟩,
  ⟨some 22, .faddr 1 (.t 1), none⟩,
  ⟨some 23, .load 1 false (.t 22), none⟩,
  ⟨some 24, .mv (.t 5), none⟩,
  ⟨some 25, .iaddr 1 (.t 23) (.t 24), none⟩,
  ⟨some 26, .load 1 false (.t 25), none⟩,
  ⟨some 27, .lit 1 false [(.str [])] 1 [(0, (.t 26))], none⟩,
  ⟨some 28, .append 1 false 16 (.t 21) (.t 27), none⟩,
  ⟨some 4, .mv (.t 28), none⟩]
def f476r7 : List ROper := [
  ⟨some 17, .mv (.t 5), none⟩,
  ⟨some 18, .faddr 0 (.t 1), none⟩,
  ⟨some 19, .load 1 false (.t 18), none⟩,
  ⟨some 20, .bin .add (.t 17) (.t 19), none⟩,
  ⟨some 5, .mv (.t 20), none⟩]
def f476r8 : List ROper := [
  ⟨some 29, .mv (.t 0), none⟩,
  ⟨some 30, .mv (.t 3), none⟩,
  ⟨some 31, .mv (.t 4), none⟩,
  ⟨some 32, .callv (.t 29) [(.t 30), (.t 31)], none⟩,
  ⟨some 33, .un .not (.t 32), none⟩]
def f476r9 : List ROper := [
  ⟨some 34, .bin .add (.t 8) (.c (.int .i64 (.ofNat 1))), none⟩,
  ⟨some 8, .mv (.t 34), none⟩]
def f476 : RFunc := ⟨[], (.seq (.region f476r0 [0, 1, 7, 8]) (.block 0 (.loop [0, 1, 7, 8] (.seq (.region f476r1 [0, 1, 7, 8, 9]) (.seq (.cond (.t 9) .skip (.exit 0)) (.seq (.block 1 (.seq (.region f476r2 [0, 1, 3, 7, 8]) (.seq (.region f476r3 [0, 1, 3, 4, 7, 8]) (.seq (.seq (.region f476r4 [0, 1, 3, 4, 5, 7, 8]) (.block 2 (.loop [0, 1, 3, 4, 5, 7, 8] (.seq (.seq (.region f476r5 [0, 1, 3, 4, 5, 7, 8, 16]) (.cond (.t 16) .skip (.exit 2))) (.seq (.block 3 (.region f476r6 [0, 1, 3, 4, 5, 7, 8])) (.region f476r7 [0, 1, 3, 4, 5, 7, 8])))))) (.seq (.region f476r8 [0, 1, 7, 8, 33]) (.cond (.t 33) .ret .skip)))))) (.region f476r9 [0, 1, 7, 8]))))))), false⟩

def tree : TT := (.node 164 (.node 123 (.node 61 (.node 40 (.node 27 (.node 17 (.node 13 (.leaf 10 (.code f10)) (.leaf 13 (.code f13))) (.node 21 (.leaf 17 (.code f17)) (.node 23 (.leaf 21 (.code f21)) (.leaf 23 (.code f23))))) (.node 30 (.node 29 (.leaf 27 (.code f27)) (.leaf 29 (.code f29))) (.node 31 (.leaf 30 (.code f30)) (.node 32 (.leaf 31 (.code f31)) (.leaf 32 (.code f32)))))) (.node 51 (.node 42 (.node 41 (.leaf 40 (.code f40)) (.leaf 41 (.code f41))) (.node 43 (.leaf 42 (.code f42)) (.node 44 (.leaf 43 (.code f43)) (.leaf 44 (.code f44))))) (.node 55 (.node 54 (.leaf 51 (.code f51)) (.leaf 54 (.code f54))) (.node 56 (.leaf 55 (.code f55)) (.node 57 (.leaf 56 (.code f56)) (.leaf 57 (.code f57))))))) (.node 108 (.node 69 (.node 64 (.node 62 (.leaf 61 (.code f61)) (.leaf 62 (.code f62))) (.node 65 (.leaf 64 (.prim countByteD)) (.node 68 (.leaf 65 (.code f65)) (.leaf 68 (.code f68))))) (.node 72 (.node 70 (.leaf 69 (.code f69)) (.leaf 70 (.code f70))) (.node 74 (.leaf 72 (.prim indexByteD)) (.node 106 (.leaf 74 (.code f74)) (.leaf 106 (.code f106)))))) (.node 117 (.node 110 (.node 109 (.leaf 108 (.code f108)) (.leaf 109 (.code f109))) (.node 113 (.leaf 110 (.code f110)) (.node 114 (.leaf 113 (.code f113)) (.leaf 114 (.code f114))))) (.node 120 (.node 118 (.leaf 117 (.code f117)) (.leaf 118 (.code f118))) (.node 121 (.leaf 120 (.code f120)) (.node 122 (.leaf 121 (.code f121)) (.leaf 122 (.code f122)))))))) (.node 144 (.node 134 (.node 129 (.node 126 (.node 124 (.leaf 123 (.code f123)) (.leaf 124 (.code f124))) (.node 127 (.leaf 126 (.code f126)) (.node 128 (.leaf 127 (.code f127)) (.leaf 128 (.code f128))))) (.node 131 (.node 130 (.leaf 129 (.code f129)) (.leaf 130 (.code f130))) (.node 132 (.leaf 131 (.code f131)) (.node 133 (.leaf 132 (.code f132)) (.leaf 133 (.code f133)))))) (.node 139 (.node 136 (.node 135 (.leaf 134 (.code f134)) (.leaf 135 (.code f135))) (.node 137 (.leaf 136 (.code f136)) (.node 138 (.leaf 137 (.code f137)) (.leaf 138 (.code f138))))) (.node 141 (.node 140 (.leaf 139 (.code f139)) (.leaf 140 (.code f140))) (.node 142 (.leaf 141 (.code f141)) (.node 143 (.leaf 142 (.code f142)) (.leaf 143 (.code f143))))))) (.node 154 (.node 149 (.node 146 (.node 145 (.leaf 144 (.code f144)) (.leaf 145 (.code f145))) (.node 147 (.leaf 146 (.code f146)) (.node 148 (.leaf 147 (.code f147)) (.leaf 148 (.code f148))))) (.node 151 (.node 150 (.leaf 149 (.code f149)) (.leaf 150 (.code f150))) (.node 152 (.leaf 151 (.code f151)) (.node 153 (.leaf 152 (.code f152)) (.leaf 153 (.code f153)))))) (.node 159 (.node 156 (.node 155 (.leaf 154 (.code f154)) (.leaf 155 (.code f155))) (.node 157 (.leaf 156 (.code f156)) (.node 158 (.leaf 157 (.code f157)) (.leaf 158 (.code f158))))) (.node 161 (.node 160 (.leaf 159 (.code f159)) (.leaf 160 (.code f160))) (.node 162 (.leaf 161 (.code f161)) (.node 163 (.leaf 162 (.code f162)) (.leaf 163 (.code f163))))))))) (.node 291 (.node 269 (.node 244 (.node 211 (.node 166 (.node 165 (.leaf 164 (.code f164)) (.leaf 165 (.code f165))) (.node 167 (.leaf 166 (.code f166)) (.node 187 (.leaf 167 (.code f167)) (.leaf 187 (.code f187))))) (.node 234 (.node 218 (.leaf 211 (.code f211)) (.leaf 218 (.code f218))) (.node 242 (.leaf 234 (.code f234)) (.node 243 (.leaf 242 (.code f242)) (.leaf 243 (.code f243)))))) (.node 249 (.node 246 (.node 245 (.leaf 244 (.code f244)) (.leaf 245 (.code f245))) (.node 247 (.leaf 246 (.code f246)) (.node 248 (.leaf 247 (.code f247)) (.leaf 248 (.code f248))))) (.node 266 (.node 265 (.leaf 249 (.code f249)) (.leaf 265 (.code f265))) (.node 267 (.leaf 266 (.code f266)) (.node 268 (.leaf 267 (.code f267)) (.leaf 268 (.code f268))))))) (.node 281 (.node 276 (.node 271 (.node 270 (.leaf 269 (.code f269)) (.leaf 270 (.code f270))) (.node 272 (.leaf 271 (.code f271)) (.node 275 (.leaf 272 (.code f272)) (.leaf 275 (.code f275))))) (.node 278 (.node 277 (.leaf 276 (.code f276)) (.leaf 277 (.code f277))) (.node 279 (.leaf 278 (.code f278)) (.node 280 (.leaf 279 (.code f279)) (.leaf 280 (.code f280)))))) (.node 286 (.node 283 (.node 282 (.leaf 281 (.code f281)) (.leaf 282 (.code f282))) (.node 284 (.leaf 283 (.code f283)) (.node 285 (.leaf 284 (.code f284)) (.leaf 285 (.code f285))))) (.node 288 (.node 287 (.leaf 286 (.code f286)) (.leaf 287 (.code f287))) (.node 289 (.leaf 288 (.code f288)) (.node 290 (.leaf 289 (.code f289)) (.leaf 290 (.code f290)))))))) (.node 346 (.node 319 (.node 296 (.node 293 (.node 292 (.leaf 291 (.code f291)) (.leaf 292 (.code f292))) (.node 294 (.leaf 293 (.code f293)) (.node 295 (.leaf 294 (.code f294)) (.leaf 295 (.code f295))))) (.node 298 (.node 297 (.leaf 296 (.code f296)) (.leaf 297 (.code f297))) (.node 299 (.leaf 298 (.code f298)) (.node 307 (.leaf 299 (.code f299)) (.leaf 307 (.code f307)))))) (.node 331 (.node 321 (.node 320 (.leaf 319 (.code f319)) (.leaf 320 (.code f320))) (.node 322 (.leaf 321 (.code f321)) (.node 330 (.leaf 322 (.code f322)) (.leaf 330 (.code f330))))) (.node 343 (.node 332 (.leaf 331 (.code f331)) (.leaf 332 (.code f332))) (.node 344 (.leaf 343 (.code f343)) (.node 345 (.leaf 344 (.code f344)) (.leaf 345 (.code f345))))))) (.node 453 (.node 405 (.node 402 (.node 393 (.leaf 346 (.code f346)) (.leaf 393 (.code f393))) (.node 403 (.leaf 402 (.code f402)) (.node 404 (.leaf 403 (.code f403)) (.leaf 404 (.code f404))))) (.node 430 (.node 406 (.leaf 405 (.code f405)) (.leaf 406 (.code f406))) (.node 431 (.leaf 430 (.code f430)) (.node 432 (.leaf 431 (.code f431)) (.leaf 432 (.code f432)))))) (.node 458 (.node 455 (.node 454 (.leaf 453 (.code f453)) (.leaf 454 (.code f454))) (.node 456 (.leaf 455 (.code f455)) (.node 457 (.leaf 456 (.code f456)) (.leaf 457 (.code f457))))) (.node 469 (.node 459 (.leaf 458 (.code f458)) (.leaf 459 (.code f459))) (.node 470 (.leaf 469 (.code f469)) (.node 476 (.leaf 470 (.code f470)) (.leaf 476 (.code f476))))))))))

def fms : List (Nat × FuncId) := [(265, 213), (266, 214), (10, 119), (267, 215), (268, 216), (269, 217), (13, 89), (270, 219), (271, 220), (272, 70), (17, 170), (275, 235), (276, 236), (277, 237), (21, 202), (278, 238), (279, 239), (23, 151), (280, 101), (281, 102), (282, 246), (283, 139), (27, 113), (284, 140), (285, 141), (29, 164), (286, 142), (30, 165), (287, 143), (31, 166), (288, 144), (32, 167), (289, 145), (290, 146), (291, 147), (292, 148), (293, 149), (294, 183), (295, 184), (296, 185), (40, 114), (297, 186), (41, 115), (298, 187), (42, 116), (299, 221), (43, 117), (44, 106), (307, 33), (51, 210), (54, 160), (55, 161), (56, 201), (57, 203), (61, 162), (62, 163), (319, 63), (63, 152), (64, 154), (320, 65), (65, 107), (321, 66), (322, 68), (68, 197), (69, 198), (70, 199), (72, 200), (73, 155), (74, 227), (330, 93), (331, 94), (332, 97), (343, 129), (344, 130), (345, 131), (346, 132), (106, 64), (108, 96), (109, 133), (110, 212), (113, 95), (114, 67), (117, 91), (118, 92), (120, 172), (121, 98), (122, 211), (123, 99), (124, 234), (126, 90), (127, 134), (128, 135), (129, 136), (130, 137), (131, 120), (132, 121), (133, 122), (134, 123), (135, 124), (136, 125), (393, 4), (137, 126), (138, 127), (139, 245), (140, 118), (141, 173), (142, 174), (143, 168), (144, 169), (145, 249), (146, 250), (402, 14), (403, 15), (147, 204), (404, 16), (148, 205), (405, 17), (149, 206), (406, 18), (150, 207), (151, 208), (152, 209), (153, 251), (154, 252), (155, 218), (156, 228), (157, 229), (158, 230), (159, 231), (160, 232), (161, 233), (162, 188), (163, 242), (164, 243), (165, 244), (166, 247), (167, 248), (430, 43), (431, 44), (432, 45), (187, 10), (453, 73), (454, 74), (455, 75), (456, 76), (457, 77), (458, 78), (459, 79), (211, 128), (469, 103), (470, 104), (218, 138), (476, 150), (234, 171), (242, 175), (243, 176), (244, 177), (245, 178), (246, 179), (247, 180), (248, 181), (249, 182)]

def env : List (Nat × List Nat) := [(4, asciiSpaceL)]

end Go.D.Tab
