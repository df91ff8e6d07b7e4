/- The code of functions, compiled (printed by wip/tools/kp.py). -/
import Derived.Test.YtanpcmkhhpaeiaaDoorProg
import Derived.Test.YtanpcmkhhpaeiaaDoorM3
namespace Go.Proofs.YtanpcmkhhpaeiaaDoor
set_option linter.unusedSimpArgs false
set_option linter.unusedVariables false
open Go Go.Fw
/-- bobbin/bobbinlaw07.CodeSame -/
def a_same_g : ACode :=
   .seq (
    .ops [⟨some 17, .call (.val (.fn (.func 8) [] [])) [], none⟩,
      ⟨some 18, .un .not (.tmp 17), none⟩,
      ⟨some 19, .val (.tmp 18), none⟩,
      ⟨some 20, .fieldAddr 2 (.tmp 5), some (19, false)⟩,
      ⟨some 21, .iload false 1 (.tmp 20), some (19, false)⟩,
      ⟨some 22, .len 1 (.tmp 21), some (19, false)⟩,
      ⟨some 23, .bin .gtr .num (.tmp 22) (.val (.lit (.int .i64 20))), some (19, false)⟩,
      ⟨some 24, .pick (.tmp 19) (.val (.lit (.bool true))) (.tmp 23), none⟩,
      ⟨some 25, .val (.tmp 24), none⟩,
      ⟨some 26, .fieldAddr 2 (.tmp 6), some (25, false)⟩,
      ⟨some 27, .iload false 1 (.tmp 26), some (25, false)⟩,
      ⟨some 28, .len 1 (.tmp 27), some (25, false)⟩,
      ⟨some 29, .bin .gtr .num (.tmp 28) (.val (.lit (.int .i64 20))), some (25, false)⟩,
      ⟨some 30, .pick (.tmp 25) (.val (.lit (.bool true))) (.tmp 29), none⟩,
      ⟨some 31, .val (.tmp 30), none⟩,
      ⟨some 32, .fieldAddr 0 (.tmp 5), some (31, false)⟩,
      ⟨some 33, .iload false 1 (.tmp 32), some (31, false)⟩,
      ⟨some 34, .len 1 (.tmp 33), some (31, false)⟩,
      ⟨some 35, .fieldAddr 0 (.tmp 6), some (31, false)⟩,
      ⟨some 36, .iload false 1 (.tmp 35), some (31, false)⟩,
      ⟨some 37, .len 1 (.tmp 36), some (31, false)⟩,
      ⟨some 38, .bin .add .num (.tmp 34) (.tmp 37), some (31, false)⟩,
      ⟨some 39, .fieldAddr 1 (.tmp 5), some (31, false)⟩,
      ⟨some 40, .iload false 1 (.tmp 39), some (31, false)⟩,
      ⟨some 41, .len 1 (.tmp 40), some (31, false)⟩,
      ⟨some 42, .bin .add .num (.tmp 38) (.tmp 41), some (31, false)⟩,
      ⟨some 43, .fieldAddr 1 (.tmp 6), some (31, false)⟩,
      ⟨some 44, .iload false 1 (.tmp 43), some (31, false)⟩,
      ⟨some 45, .len 1 (.tmp 44), some (31, false)⟩,
      ⟨some 46, .bin .add .num (.tmp 42) (.tmp 45), some (31, false)⟩,
      ⟨some 47, .bin .gtr .num (.tmp 46) (.val (.lit (.int .i64 200))), some (31, false)⟩,
      ⟨some 48, .pick (.tmp 31) (.val (.lit (.bool true))) (.tmp 47), none⟩]) (
   .cond (.tmp 48) (
     .seq (
      .ops [⟨some 49, .call (.val (.fn (.func 8) [] [])) [], none⟩,
        ⟨some 10, .val (.tmp 49), none⟩]) (
     .ret)) (
     .skip))

def a_same_b : ACode :=
   .seq (
    .ops [⟨some 50, .iload true 3 (.tmp 5), none⟩,
      ⟨some 51, .iload true 3 (.tmp 5), none⟩,
      ⟨some 52, .call (.val (.fn (.func 14) [] [])) [(.tmp 50), (.tmp 51)], none⟩,
      ⟨some 53, .un .not (.tmp 52), none⟩,
      ⟨some 54, .val (.tmp 53), none⟩,
      ⟨some 55, .iload true 6 (.tmp 9), some (54, false)⟩,
      ⟨some 56, .iload true 6 (.tmp 9), some (54, false)⟩,
      ⟨some 57, .call (.val (.fn (.func 18) [] [])) [(.tmp 55), (.tmp 56)], some (54, false)⟩,
      ⟨some 58, .un .not (.tmp 57), some (54, false)⟩,
      ⟨some 59, .pick (.tmp 54) (.val (.lit (.bool true))) (.tmp 58), none⟩,
      ⟨some 60, .val (.tmp 59), none⟩,
      ⟨some 61, .iload true 3 (.tmp 5), some (60, false)⟩,
      ⟨some 62, .iload true 3 (.tmp 6), some (60, false)⟩,
      ⟨some 64, .iload true 3 (.tmp 6), some (60, false)⟩,
      ⟨some 65, .iload true 3 (.tmp 5), some (60, false)⟩,
      ⟨some 63, .call (.val (.fn (.func 14) [] [])) [(.tmp 61), (.tmp 62)], some (60, false)⟩,
      ⟨some 66, .call (.val (.fn (.func 14) [] [])) [(.tmp 64), (.tmp 65)], some (60, false)⟩,
      ⟨some 67, .bin .neq .bool (.tmp 63) (.tmp 66), some (60, false)⟩,
      ⟨some 68, .pick (.tmp 60) (.val (.lit (.bool true))) (.tmp 67), none⟩]) (
   .cond (.tmp 68) (
     .seq (
      .ops [⟨some 10, .val (.val (.lit (.bool false))), none⟩]) (
     .ret)) (
     .skip))

def a_same_n : ACode :=
   .seq (
    .ops [⟨some 69, .fieldAddr 2 (.tmp 5), none⟩,
      ⟨some 70, .iload false 1 (.tmp 69), none⟩,
      ⟨some 71, .len 1 (.tmp 70), none⟩,
      ⟨some 72, .bin .eql .num (.tmp 71) (.val (.lit (.int .i64 0))), none⟩]) (
   .cond (.tmp 72) (
     .seq (
      .ops [⟨some 10, .val (.val (.lit (.bool true))), none⟩]) (
     .ret)) (
     .skip))

def a_same_k : ACode :=
   .ops [⟨some 73, .val (.tmp 2), none⟩,
     ⟨some 74, .conv .u64 (.tmp 73), none⟩,
     ⟨some 75, .fieldAddr 2 (.tmp 5), none⟩,
     ⟨some 76, .iload false 1 (.tmp 75), none⟩,
     ⟨some 77, .len 1 (.tmp 76), none⟩,
     ⟨some 78, .conv .u64 (.tmp 77), none⟩,
     ⟨some 79, .bin .rem .num (.tmp 74) (.tmp 78), none⟩,
     ⟨some 80, .conv .i64 (.tmp 79), none⟩,
     ⟨some 11, .val (.tmp 80), none⟩]

def a_same_x1 : ACode :=
   .ops [⟨some 81, .iload true 3 (.tmp 5), none⟩,
     ⟨some 12, .alloc [(.sl .nil 0 []), (.sl .nil 0 []), (.sl .nil 0 [])], none⟩,
     ⟨none, .store 3 (.tmp 12) (.tmp 81), none⟩]

def a_same_x2 : ACode :=
   .ops [⟨some 82, .bslice false 5 0 [] [], none⟩,
     ⟨some 83, .fieldAddr 2 (.tmp 5), none⟩,
     ⟨some 84, .iload false 1 (.tmp 83), none⟩,
     ⟨some 85, .append false 5 64 (.tmp 82) (.tmp 84), none⟩,
     ⟨some 86, .fieldAddr 2 (.tmp 12), none⟩,
     ⟨none, .store 1 (.tmp 86) (.tmp 85), none⟩]

def a_same_x3 : ACode :=
   .ops [⟨some 87, .fieldAddr 2 (.tmp 12), none⟩,
     ⟨some 89, .val (.tmp 11), none⟩,
     ⟨some 90, .fieldAddr 2 (.tmp 12), none⟩,
     ⟨some 92, .val (.tmp 11), none⟩,
     ⟨some 88, .load false 1 (.tmp 87), none⟩,
     ⟨some 91, .load false 1 (.tmp 90), none⟩,
     ⟨some 93, .indexAddr 5 (.tmp 91) (.tmp 92), none⟩,
     ⟨some 94, .fieldAddr 0 (.tmp 93), none⟩,
     ⟨some 95, .load false 1 (.tmp 94), none⟩,
     ⟨some 96, .bin .add .num (.tmp 95) (.val (.lit (.string ⟨#[120]⟩))), none⟩,
     ⟨some 97, .indexAddr 5 (.tmp 88) (.tmp 89), none⟩,
     ⟨some 98, .fieldAddr 0 (.tmp 97), none⟩,
     ⟨none, .store 1 (.tmp 98) (.tmp 96), none⟩]

def a_same_y1 : ACode :=
   .ops [⟨some 99, .iload true 3 (.tmp 5), none⟩,
     ⟨some 13, .alloc [(.sl .nil 0 []), (.sl .nil 0 []), (.sl .nil 0 [])], none⟩,
     ⟨none, .store 3 (.tmp 13) (.tmp 99), none⟩]

def a_same_y2 : ACode :=
   .ops [⟨some 100, .bslice false 5 0 [] [], none⟩,
     ⟨some 101, .fieldAddr 2 (.tmp 5), none⟩,
     ⟨some 102, .iload false 1 (.tmp 101), none⟩,
     ⟨some 103, .val (.tmp 11), none⟩,
     ⟨some 104, .slice 5 (.tmp 102) none (some (.tmp 103)) none, none⟩,
     ⟨some 106, .fieldAddr 2 (.tmp 5), none⟩,
     ⟨some 107, .iload false 1 (.tmp 106), none⟩,
     ⟨some 108, .val (.tmp 11), none⟩,
     ⟨some 109, .bin .add .num (.tmp 108) (.val (.lit (.int .i64 1))), none⟩,
     ⟨some 110, .slice 5 (.tmp 107) (some (.tmp 109)) none none, none⟩,
     ⟨some 105, .append false 5 64 (.tmp 100) (.tmp 104), none⟩,
     ⟨some 111, .append false 5 64 (.tmp 105) (.tmp 110), none⟩,
     ⟨some 112, .fieldAddr 2 (.tmp 13), none⟩,
     ⟨none, .store 1 (.tmp 112) (.tmp 111), none⟩]

def a_same_c : ACode :=
   .seq (
    .ops [⟨some 113, .iload true 3 (.tmp 5), none⟩,
      ⟨some 114, .load true 3 (.tmp 12), none⟩,
      ⟨some 115, .call (.val (.fn (.func 14) [] [])) [(.tmp 113), (.tmp 114)], none⟩,
      ⟨some 116, .val (.tmp 115), none⟩,
      ⟨some 117, .iload true 3 (.tmp 5), some (116, false)⟩,
      ⟨some 118, .load true 3 (.tmp 13), some (116, false)⟩,
      ⟨some 119, .call (.val (.fn (.func 14) [] [])) [(.tmp 117), (.tmp 118)], some (116, false)⟩,
      ⟨some 120, .pick (.tmp 116) (.val (.lit (.bool true))) (.tmp 119), none⟩]) (
   .cond (.tmp 120) (
     .seq (
      .ops [⟨some 10, .val (.val (.lit (.bool false))), none⟩]) (
     .ret)) (
     .skip))

def a_same_l1 : ACode :=
   .ops [⟨some 121, .fieldAddr 2 (.tmp 5), none⟩,
     ⟨some 122, .iload false 1 (.tmp 121), none⟩,
     ⟨some 123, .val (.tmp 11), none⟩,
     ⟨some 124, .indexAddr 5 (.tmp 122) (.tmp 123), none⟩,
     ⟨some 125, .fieldAddr 4 (.tmp 124), none⟩,
     ⟨some 126, .load false 1 (.tmp 125), none⟩,
     ⟨some 14, .val (.tmp 126), none⟩]

def a_same_l2 : ACode :=
   .seq (
    .ops [⟨some 127, .val (.tmp 14), none⟩,
      ⟨some 128, .len 1 (.tmp 127), none⟩,
      ⟨some 129, .bin .eql .num (.tmp 128) (.val (.lit (.int .i64 0))), none⟩,
      ⟨some 130, .val (.tmp 129), none⟩,
      ⟨some 131, .val (.tmp 14), some (130, false)⟩,
      ⟨some 132, .len 1 (.tmp 131), some (130, false)⟩,
      ⟨some 133, .bin .gtr .num (.tmp 132) (.val (.lit (.int .i64 2000))), some (130, false)⟩,
      ⟨some 134, .pick (.tmp 130) (.val (.lit (.bool true))) (.tmp 133), none⟩]) (
   .cond (.tmp 134) (
     .seq (
      .ops [⟨some 10, .val (.val (.lit (.bool true))), none⟩]) (
     .ret)) (
     .skip))

def a_same_l3 : ACode :=
   .ops [⟨some 135, .val (.tmp 3), none⟩,
     ⟨some 136, .conv .u64 (.tmp 135), none⟩,
     ⟨some 137, .val (.tmp 14), none⟩,
     ⟨some 138, .len 1 (.tmp 137), none⟩,
     ⟨some 139, .conv .u64 (.tmp 138), none⟩,
     ⟨some 140, .bin .rem .num (.tmp 136) (.tmp 139), none⟩,
     ⟨some 141, .conv .i64 (.tmp 140), none⟩,
     ⟨some 15, .val (.tmp 141), none⟩]

def a_same_z1 : ACode :=
   .ops [⟨some 142, .iload true 3 (.tmp 5), none⟩,
     ⟨some 16, .alloc [(.sl .nil 0 []), (.sl .nil 0 []), (.sl .nil 0 [])], none⟩,
     ⟨none, .store 3 (.tmp 16) (.tmp 142), none⟩]

def a_same_z2 : ACode :=
   .ops [⟨some 143, .bslice false 5 0 [] [], none⟩,
     ⟨some 144, .fieldAddr 2 (.tmp 5), none⟩,
     ⟨some 145, .iload false 1 (.tmp 144), none⟩,
     ⟨some 146, .append false 5 64 (.tmp 143) (.tmp 145), none⟩,
     ⟨some 147, .fieldAddr 2 (.tmp 16), none⟩,
     ⟨none, .store 1 (.tmp 147) (.tmp 146), none⟩]

def a_same_z3 : ACode :=
   .ops [⟨some 148, .fieldAddr 2 (.tmp 16), none⟩,
     ⟨some 150, .val (.tmp 11), none⟩,
     ⟨some 151, .bslice false 6 0 [] [], none⟩,
     ⟨some 152, .val (.tmp 14), none⟩,
     ⟨some 149, .load false 1 (.tmp 148), none⟩,
     ⟨some 153, .kappend 6 64 (.tmp 151) (.tmp 152), none⟩,
     ⟨some 154, .indexAddr 5 (.tmp 149) (.tmp 150), none⟩,
     ⟨some 155, .fieldAddr 4 (.tmp 154), none⟩,
     ⟨none, .store 1 (.tmp 155) (.tmp 153), none⟩]

def a_same_z4 : ACode :=
   .ops [⟨some 156, .fieldAddr 2 (.tmp 16), none⟩,
     ⟨some 158, .val (.tmp 11), none⟩,
     ⟨some 162, .val (.tmp 15), none⟩,
     ⟨some 163, .iload true 6 (.tmp 9), none⟩,
     ⟨some 157, .load false 1 (.tmp 156), none⟩,
     ⟨some 159, .indexAddr 5 (.tmp 157) (.tmp 158), none⟩,
     ⟨some 160, .fieldAddr 4 (.tmp 159), none⟩,
     ⟨some 161, .load false 1 (.tmp 160), none⟩,
     ⟨some 164, .indexAddr 6 (.tmp 161) (.tmp 162), none⟩,
     ⟨none, .store 6 (.tmp 164) (.tmp 163), none⟩]

def a_same_r : ACode :=
   .ops [⟨some 165, .iload true 3 (.tmp 5), none⟩,
     ⟨some 168, .val (.tmp 14), none⟩,
     ⟨some 169, .val (.tmp 15), none⟩,
     ⟨some 170, .indexAddr 6 (.tmp 168) (.tmp 169), none⟩,
     ⟨some 172, .iload true 6 (.tmp 9), none⟩,
     ⟨some 166, .load true 3 (.tmp 16), none⟩,
     ⟨some 171, .load true 6 (.tmp 170), none⟩,
     ⟨some 167, .kcall (.val (.fn (.func 14) [] [])) [(.tmp 165), (.tmp 166)], none⟩,
     ⟨some 173, .call (.val (.fn (.func 18) [] [])) [(.tmp 171), (.tmp 172)], none⟩,
     ⟨some 174, .bin .eql .bool (.tmp 167) (.tmp 173), none⟩,
     ⟨some 10, .val (.tmp 174), none⟩]

def a_bobbinlaw07_CodeSame : ACode :=
  .seq (
   .ops [⟨some 5, .box true (.tmp 0), none⟩,
     ⟨some 6, .box true (.tmp 1), none⟩,
     ⟨some 9, .box true (.tmp 4), none⟩,
     ⟨some 10, .val (.val (.lit (.bool false))), none⟩]) (
  .seq a_same_g (
  .seq a_same_b (
  .seq a_same_n (
  .seq a_same_k (
  .seq a_same_x1 (
  .seq a_same_x2 (
  .seq a_same_x3 (
  .seq a_same_y1 (
  .seq a_same_y2 (
  .seq a_same_c (
  .seq a_same_l1 (
  .seq a_same_l2 (
  .seq a_same_l3 (
  .seq a_same_z1 (
  .seq a_same_z2 (
  .seq a_same_z3 (
  .seq a_same_z4 (
  .seq a_same_r (
  .ret)))))))))))))))))))

theorem c_bobbinlaw07_CodeSame : codeOf Tryd.prog { kc := [167], bz := [5, 6, 9], il := [21, 27, 33, 36, 40, 44, 50, 51, 55, 56, 61, 62, 64, 65, 70, 76, 81, 84, 99, 102, 107, 113, 117, 122, 142, 145, 163, 165, 172], ka := [153] } 5 = some (a_bobbinlaw07_CodeSame, [.tmp 10], 175) := by kernel_rfl

end Go.Proofs.YtanpcmkhhpaeiaaDoor
