/- The code of functions, compiled (printed by wip/tools/kp.py). -/
import Derived.Test.YtanpcmkhhpaeiaaDoorProg
import Derived.Test.YtanpcmkhhpaeiaaDoorM3
namespace Go.Proofs.YtanpcmkhhpaeiaaDoor
set_option linter.unusedSimpArgs false
set_option linter.unusedVariables false
open Go Go.Fw
/-- bobbin/bobbinlaw07.CodeMay -/
def a_bobbinlaw07_CodeMay : ACode :=
  .seq (
   .ops [⟨some 2, .box true (.tmp 0), none⟩,
     ⟨some 3, .box true (.tmp 1), none⟩,
     ⟨some 4, .val (.val (.lit (.bool false))), none⟩]) (
  .seq (
   .seq (
    .ops [⟨some 5, .iload true 3 (.tmp 2), none⟩,
      ⟨some 6, .call (.val (.fn (.func 11) [] [])) [(.tmp 5)], none⟩,
      ⟨some 7, .val (.tmp 6), none⟩,
      ⟨some 8, .iload true 3 (.tmp 3), some (7, false)⟩,
      ⟨some 9, .call (.val (.fn (.func 11) [] [])) [(.tmp 8)], some (7, false)⟩,
      ⟨some 10, .pick (.tmp 7) (.val (.lit (.bool true))) (.tmp 9), none⟩]) (
   .cond (.tmp 10) (
     .seq (
      .ops [⟨some 4, .val (.val (.lit (.bool true))), none⟩]) (
     .ret)) (
     .skip))) (
  .seq (
   .ops [⟨some 11, .iload true 3 (.tmp 2), none⟩,
     ⟨some 13, .iload true 3 (.tmp 2), none⟩,
     ⟨some 12, .call (.val (.fn (.func 12) [] [])) [(.tmp 11)], none⟩,
     ⟨some 14, .call (.val (.fn (.func 13) [] [])) [(.tmp 13)], none⟩,
     ⟨some 15, .bin .eql .bool (.tmp 12) (.tmp 14), none⟩,
     ⟨some 16, .val (.tmp 15), none⟩,
     ⟨some 17, .iload true 3 (.tmp 2), some (16, true)⟩,
     ⟨some 18, .iload true 3 (.tmp 3), some (16, true)⟩,
     ⟨some 20, .iload true 3 (.tmp 2), some (16, true)⟩,
     ⟨some 21, .iload true 3 (.tmp 3), some (16, true)⟩,
     ⟨some 19, .call (.val (.fn (.func 14) [] [])) [(.tmp 17), (.tmp 18)], some (16, true)⟩,
     ⟨some 22, .call (.val (.fn (.func 15) [] [])) [(.tmp 20), (.tmp 21)], some (16, true)⟩,
     ⟨some 23, .bin .eql .bool (.tmp 19) (.tmp 22), some (16, true)⟩,
     ⟨some 24, .pick (.tmp 16) (.tmp 23) (.val (.lit (.bool false))), none⟩,
     ⟨some 25, .val (.tmp 24), none⟩,
     ⟨some 26, .iload true 3 (.tmp 2), some (25, true)⟩,
     ⟨some 27, .iload true 3 (.tmp 2), some (25, true)⟩,
     ⟨some 28, .call (.val (.fn (.func 14) [] [])) [(.tmp 26), (.tmp 27)], some (25, true)⟩,
     ⟨some 29, .pick (.tmp 25) (.tmp 28) (.val (.lit (.bool false))), none⟩,
     ⟨some 30, .val (.tmp 29), none⟩,
     ⟨some 31, .iload true 3 (.tmp 2), some (30, true)⟩,
     ⟨some 33, .iload true 3 (.tmp 2), some (30, true)⟩,
     ⟨some 32, .call (.val (.fn (.func 9) [] [])) [(.tmp 31)], some (30, true)⟩,
     ⟨some 34, .call (.val (.fn (.func 17) [] [])) [(.tmp 33)], some (30, true)⟩,
     ⟨some 35, .call (.val (.fn (.func 16) [] [])) [(.tmp 32), (.tmp 34)], some (30, true)⟩,
     ⟨some 36, .pick (.tmp 30) (.tmp 35) (.val (.lit (.bool false))), none⟩,
     ⟨some 4, .val (.tmp 36), none⟩]) (
  .ret)))

theorem c_bobbinlaw07_CodeMay : codeOf Tryd.prog { bz := [2, 3], il := [5, 8, 11, 13, 17, 18, 20, 21, 26, 27, 31, 33] } 4 = some (a_bobbinlaw07_CodeMay, [.tmp 4], 37) := by kernel_rfl

/-- bobbin/bobbinlaw07.CodeThreads -/
def a_bobbinlaw07_CodeThreadsb1 : ACode :=
       .seq (
        .seq (
         .ops [⟨some 78, .val (.tmp 12), none⟩,
           ⟨some 79, .val (.tmp 11), none⟩,
           ⟨some 80, .len 1 (.tmp 79), none⟩,
           ⟨some 81, .bin .lss .num (.tmp 78) (.tmp 80), none⟩]) (
        .cond (.tmp 81) (
          .skip) (
          .exit 4))) (
       .seq (
        .block 5 (
          .seq (
           .ops [⟨some 84, .val (.tmp 11), none⟩,
             ⟨some 85, .val (.tmp 12), none⟩,
             ⟨some 86, .indexAddr 1 (.tmp 84) (.tmp 85), none⟩,
             ⟨some 88, .val (.tmp 9), none⟩,
             ⟨some 89, .val (.tmp 12), none⟩,
             ⟨some 90, .indexAddr 1 (.tmp 88) (.tmp 89), none⟩,
             ⟨some 87, .load false 1 (.tmp 86), none⟩,
             ⟨some 91, .load false 1 (.tmp 90), none⟩,
             ⟨some 92, .bin .neq .num (.tmp 87) (.tmp 91), none⟩]) (
          .cond (.tmp 92) (
            .seq (
             .ops [⟨some 4, .val (.val (.lit (.bool false))), none⟩]) (
            .ret)) (
            .skip)))) (
       .ops [⟨some 82, .val (.tmp 12), none⟩,
         ⟨some 83, .bin .add .num (.tmp 82) (.val (.lit (.int .i64 1))), none⟩,
         ⟨some 12, .val (.tmp 83), none⟩]))

def a_bobbinlaw07_CodeThreadsb2 : ACode :=
       .seq (
        .seq (
         .ops [⟨some 62, .val (.tmp 10), none⟩,
           ⟨some 63, .val (.tmp 8), none⟩,
           ⟨some 64, .len 1 (.tmp 63), none⟩,
           ⟨some 65, .bin .lss .num (.tmp 62) (.tmp 64), none⟩]) (
        .cond (.tmp 65) (
          .skip) (
          .exit 2))) (
       .seq (
        .block 3 (
          .ops [⟨some 68, .val (.tmp 8), none⟩,
            ⟨some 69, .val (.tmp 10), none⟩,
            ⟨some 70, .indexAddr 1 (.tmp 68) (.tmp 69), none⟩,
            ⟨none, .store 1 (.tmp 70) (.val (.lit (.int .i64 (-7)))), none⟩])) (
       .ops [⟨some 66, .val (.tmp 10), none⟩,
         ⟨some 67, .bin .add .num (.tmp 66) (.val (.lit (.int .i64 1))), none⟩,
         ⟨some 10, .val (.tmp 67), none⟩]))

def a_bobbinlaw07_CodeThreadsb3 : ACode :=
       .seq (
        .seq (
         .ops [⟨some 30, .val (.tmp 7), none⟩,
           ⟨some 31, .fieldAddr 2 (.tmp 2), none⟩,
           ⟨some 32, .iload false 1 (.tmp 31), none⟩,
           ⟨some 33, .len 1 (.tmp 32), none⟩,
           ⟨some 34, .bin .lss .num (.tmp 30) (.tmp 33), none⟩]) (
        .cond (.tmp 34) (
          .skip) (
          .exit 0))) (
       .seq (
        .block 1 (
          .seq (
           .ops [⟨some 37, .fieldAddr 2 (.tmp 2), none⟩,
             ⟨some 38, .iload false 1 (.tmp 37), none⟩,
             ⟨some 39, .val (.tmp 7), none⟩,
             ⟨some 40, .indexAddr 5 (.tmp 38) (.tmp 39), none⟩,
             ⟨some 41, .fieldAddr 1 (.tmp 40), none⟩,
             ⟨some 42, .load false 1 (.tmp 41), none⟩]) (
          .cond (.tmp 42) (
            .seq (
             .seq (
              .ops [⟨some 43, .val (.tmp 6), none⟩,
                ⟨some 44, .val (.tmp 5), none⟩,
                ⟨some 45, .len 1 (.tmp 44), none⟩,
                ⟨some 46, .bin .geq .num (.tmp 43) (.tmp 45), none⟩,
                ⟨some 47, .val (.tmp 46), none⟩,
                ⟨some 48, .val (.tmp 5), some (47, false)⟩,
                ⟨some 49, .val (.tmp 6), some (47, false)⟩,
                ⟨some 50, .indexAddr 1 (.tmp 48) (.tmp 49), some (47, false)⟩,
                ⟨some 51, .load false 1 (.tmp 50), some (47, false)⟩,
                ⟨some 52, .val (.tmp 7), some (47, false)⟩,
                ⟨some 53, .bin .neq .num (.tmp 51) (.tmp 52), some (47, false)⟩,
                ⟨some 54, .pick (.tmp 47) (.val (.lit (.bool true))) (.tmp 53), none⟩]) (
             .cond (.tmp 54) (
               .seq (
                .ops [⟨some 4, .val (.val (.lit (.bool false))), none⟩]) (
               .ret)) (
               .skip))) (
            .ops [⟨some 55, .val (.tmp 6), none⟩,
              ⟨some 56, .bin .add .num (.tmp 55) (.val (.lit (.int .i64 1))), none⟩,
              ⟨some 6, .val (.tmp 56), none⟩])) (
            .skip)))) (
       .ops [⟨some 35, .val (.tmp 7), none⟩,
         ⟨some 36, .bin .add .num (.tmp 35) (.val (.lit (.int .i64 1))), none⟩,
         ⟨some 7, .val (.tmp 36), none⟩]))

def a_thr_a : ACode :=
   .seq (
    .ops [⟨some 7, .val (.val (.lit (.int .i64 0))), none⟩]) (
   .block 0 (
     .loop a_bobbinlaw07_CodeThreadsb3))

def a_thr_b : ACode :=
   .seq (
    .ops [⟨some 10, .val (.val (.lit (.int .i64 0))), none⟩]) (
   .block 2 (
     .loop a_bobbinlaw07_CodeThreadsb2))

def a_thr_c : ACode :=
   .seq (
    .ops [⟨some 12, .val (.val (.lit (.int .i64 0))), none⟩]) (
   .block 4 (
     .loop a_bobbinlaw07_CodeThreadsb1))

def a_bobbinlaw07_CodeThreads : ACode :=
  .seq (
   .ops [⟨some 2, .box true (.tmp 0), none⟩,
     ⟨some 3, .box true (.tmp 1), none⟩,
     ⟨some 4, .val (.val (.lit (.bool false))), none⟩]) (
  .seq (
   .seq (
    .ops [⟨some 13, .call (.val (.fn (.func 8) [] [])) [], none⟩,
      ⟨some 14, .un .not (.tmp 13), none⟩,
      ⟨some 15, .val (.tmp 14), none⟩,
      ⟨some 16, .fieldAddr 2 (.tmp 2), some (15, false)⟩,
      ⟨some 17, .iload false 1 (.tmp 16), some (15, false)⟩,
      ⟨some 18, .len 1 (.tmp 17), some (15, false)⟩,
      ⟨some 19, .bin .gtr .num (.tmp 18) (.val (.lit (.int .i64 200))), some (15, false)⟩,
      ⟨some 20, .pick (.tmp 15) (.val (.lit (.bool true))) (.tmp 19), none⟩,
      ⟨some 21, .val (.tmp 20), none⟩,
      ⟨some 22, .fieldAddr 5 (.tmp 3), some (21, false)⟩,
      ⟨some 23, .iload false 1 (.tmp 22), some (21, false)⟩,
      ⟨some 24, .len 1 (.tmp 23), some (21, false)⟩,
      ⟨some 25, .bin .gtr .num (.tmp 24) (.val (.lit (.int .i64 200))), some (21, false)⟩,
      ⟨some 26, .pick (.tmp 21) (.val (.lit (.bool true))) (.tmp 25), none⟩]) (
   .cond (.tmp 26) (
     .seq (
      .ops [⟨some 27, .call (.val (.fn (.func 8) [] [])) [], none⟩,
        ⟨some 4, .val (.tmp 27), none⟩]) (
     .ret)) (
     .skip))) (
  .seq (
   .ops [⟨some 28, .iload true 3 (.tmp 2), none⟩,
     ⟨some 29, .call (.val (.fn (.func 9) [] [])) [(.tmp 28)], none⟩,
     ⟨some 5, .val (.tmp 29), none⟩]) (
  .seq (
   .ops [⟨some 6, .val (.val (.lit (.int .i64 0))), none⟩]) (
  .seq a_thr_a (
  .seq (
   .ops [⟨some 57, .iload true 6 (.tmp 3), none⟩,
     ⟨some 58, .call (.val (.fn (.func 10) [] [])) [(.tmp 57)], none⟩,
     ⟨some 8, .val (.tmp 58), none⟩]) (
  .seq (
   .ops [⟨some 59, .bslice false 1 0 [] [], none⟩,
     ⟨some 60, .val (.tmp 8), none⟩,
     ⟨some 61, .append false 1 8 (.tmp 59) (.tmp 60), none⟩,
     ⟨some 9, .val (.tmp 61), none⟩]) (
  .seq a_thr_b (
  .seq (
   .ops [⟨some 71, .iload true 6 (.tmp 3), none⟩,
     ⟨some 72, .call (.val (.fn (.func 10) [] [])) [(.tmp 71)], none⟩,
     ⟨some 11, .val (.tmp 72), none⟩]) (
  .seq (
   .seq (
    .ops [⟨some 73, .val (.tmp 11), none⟩,
      ⟨some 74, .len 1 (.tmp 73), none⟩,
      ⟨some 75, .val (.tmp 9), none⟩,
      ⟨some 76, .len 1 (.tmp 75), none⟩,
      ⟨some 77, .bin .neq .num (.tmp 74) (.tmp 76), none⟩]) (
   .cond (.tmp 77) (
     .seq (
      .ops [⟨some 4, .val (.val (.lit (.bool false))), none⟩]) (
     .ret)) (
     .skip))) (
  .seq a_thr_c (
  .seq (
   .ops [⟨some 93, .val (.tmp 6), none⟩,
     ⟨some 94, .val (.tmp 5), none⟩,
     ⟨some 95, .len 1 (.tmp 94), none⟩,
     ⟨some 96, .bin .eql .num (.tmp 93) (.tmp 95), none⟩,
     ⟨some 4, .val (.tmp 96), none⟩]) (
  .ret))))))))))))

theorem c_bobbinlaw07_CodeThreads : codeOf Tryd.prog { bz := [2, 3], il := [17, 23, 28, 32, 38, 57, 71] } 3 = some (a_bobbinlaw07_CodeThreads, [.tmp 4], 97) := by kernel_rfl

/-- bobbin/bobbinlaw07.works -/
def a_works_e : ACode :=
   .ops [⟨some 15, .load true 6 (.tmp 2), none⟩,
     ⟨some 16, .load true 6 (.tmp 1), none⟩,
     ⟨some 17, .bslice false 6 2 [(.lit (.int .u8 0)), (.lit (.int .i64 0)), (.lit (.int .i64 0)), (.lit (.int .i64 0)), (.lit (.int .i64 0)), (.sl .nil 0 []), (.lit (.int .u8 0)), (.lit (.int .i64 0)), (.lit (.int .i64 0)), (.lit (.int .i64 0)), (.lit (.int .i64 0)), (.sl .nil 0 [])] [(0, 6, (.tmp 15)), (6, 6, (.tmp 16))], none⟩,
     ⟨some 18, .call (.val (.fn (.func 19) [] [])) [(.val (.lit (.int .i64 1))), (.tmp 17)], none⟩,
     ⟨some 19, .call (.val (.fn (.func 12) [] [])) [(.tmp 18)], none⟩,
     ⟨some 20, .val (.tmp 19), none⟩,
     ⟨some 21, .load true 6 (.tmp 2), some (20, true)⟩,
     ⟨some 22, .load true 6 (.tmp 1), some (20, true)⟩,
     ⟨some 23, .bslice false 6 2 [(.lit (.int .u8 0)), (.lit (.int .i64 0)), (.lit (.int .i64 0)), (.lit (.int .i64 0)), (.lit (.int .i64 0)), (.sl .nil 0 []), (.lit (.int .u8 0)), (.lit (.int .i64 0)), (.lit (.int .i64 0)), (.lit (.int .i64 0)), (.lit (.int .i64 0)), (.sl .nil 0 [])] [(0, 6, (.tmp 21)), (6, 6, (.tmp 22))], some (20, true)⟩,
     ⟨some 24, .call (.val (.fn (.func 19) [] [])) [(.val (.lit (.int .i64 0))), (.tmp 23)], some (20, true)⟩,
     ⟨some 25, .call (.val (.fn (.func 12) [] [])) [(.tmp 24)], some (20, true)⟩,
     ⟨some 26, .un .not (.tmp 25), some (20, true)⟩,
     ⟨some 27, .pick (.tmp 20) (.tmp 26) (.val (.lit (.bool false))), none⟩,
     ⟨some 28, .val (.tmp 27), none⟩,
     ⟨some 29, .load true 6 (.tmp 2), some (28, true)⟩,
     ⟨some 30, .build [(.lit (.int .u8 0)), (.lit (.int .i64 0)), (.lit (.int .i64 0)), (.lit (.int .i64 0)), (.lit (.int .i64 0)), (.sl .nil 0 [])] [(0, 1, (.val (.lit (.int .u8 12))))], some (28, true)⟩,
     ⟨some 31, .bslice false 6 2 [(.lit (.int .u8 0)), (.lit (.int .i64 0)), (.lit (.int .i64 0)), (.lit (.int .i64 0)), (.lit (.int .i64 0)), (.sl .nil 0 []), (.lit (.int .u8 0)), (.lit (.int .i64 0)), (.lit (.int .i64 0)), (.lit (.int .i64 0)), (.lit (.int .i64 0)), (.sl .nil 0 [])] [(0, 6, (.tmp 29)), (6, 6, (.tmp 30))], some (28, true)⟩,
     ⟨some 32, .call (.val (.fn (.func 19) [] [])) [(.val (.lit (.int .i64 1))), (.tmp 31)], some (28, true)⟩,
     ⟨some 33, .call (.val (.fn (.func 12) [] [])) [(.tmp 32)], some (28, true)⟩,
     ⟨some 34, .un .not (.tmp 33), some (28, true)⟩,
     ⟨some 35, .pick (.tmp 28) (.tmp 34) (.val (.lit (.bool false))), none⟩,
     ⟨some 36, .val (.tmp 35), none⟩,
     ⟨some 37, .build [(.lit (.int .u8 0)), (.lit (.int .i64 0)), (.lit (.int .i64 0)), (.lit (.int .i64 0)), (.lit (.int .i64 0)), (.sl .nil 0 [])] [(0, 1, (.val (.lit (.int .u8 5)))), (3, 1, (.val (.lit (.int .i64 1))))], some (36, true)⟩,
     ⟨some 38, .load true 6 (.tmp 1), some (36, true)⟩,
     ⟨some 39, .bslice false 6 2 [(.lit (.int .u8 0)), (.lit (.int .i64 0)), (.lit (.int .i64 0)), (.lit (.int .i64 0)), (.lit (.int .i64 0)), (.sl .nil 0 []), (.lit (.int .u8 0)), (.lit (.int .i64 0)), (.lit (.int .i64 0)), (.lit (.int .i64 0)), (.lit (.int .i64 0)), (.sl .nil 0 [])] [(0, 6, (.tmp 37)), (6, 6, (.tmp 38))], some (36, true)⟩,
     ⟨some 40, .call (.val (.fn (.func 19) [] [])) [(.val (.lit (.int .i64 2))), (.tmp 39)], some (36, true)⟩,
     ⟨some 41, .call (.val (.fn (.func 12) [] [])) [(.tmp 40)], some (36, true)⟩,
     ⟨some 42, .un .not (.tmp 41), some (36, true)⟩,
     ⟨some 43, .pick (.tmp 36) (.tmp 42) (.val (.lit (.bool false))), none⟩,
     ⟨some 44, .val (.tmp 43), none⟩,
     ⟨some 45, .val (.tmp 3), some (44, true)⟩,
     ⟨some 46, .bslice false 1 1 [(.lit (.int .i64 0))] [(0, 1, (.val (.lit (.int .i64 3))))], some (44, true)⟩,
     ⟨some 47, .call (.val (.fn (.func 16) [] [])) [(.tmp 45), (.tmp 46)], some (44, true)⟩,
     ⟨some 48, .pick (.tmp 44) (.tmp 47) (.val (.lit (.bool false))), none⟩,
     ⟨some 49, .val (.tmp 48), none⟩,
     ⟨some 50, .val (.tmp 4), some (49, true)⟩,
     ⟨some 51, .bin .eql .num (.tmp 50) (.val (.lit (.int .i64 5))), some (49, true)⟩,
     ⟨some 52, .pick (.tmp 49) (.tmp 51) (.val (.lit (.bool false))), none⟩,
     ⟨some 53, .val (.tmp 52), none⟩,
     ⟨some 54, .val (.tmp 5), some (53, true)⟩,
     ⟨some 55, .pick (.tmp 53) (.tmp 54) (.val (.lit (.bool false))), none⟩,
     ⟨some 0, .val (.tmp 55), none⟩]

def a_bobbinlaw07_works : ACode :=
  .seq (
   .ops [⟨some 0, .val (.val (.lit (.bool false))), none⟩]) (
  .seq (
   .ops [⟨some 6, .build [(.lit (.int .u8 0)), (.lit (.int .i64 0)), (.lit (.int .i64 0)), (.lit (.int .i64 0)), (.lit (.int .i64 0)), (.sl .nil 0 [])] [(0, 1, (.val (.lit (.int .u8 13))))], none⟩,
     ⟨some 1, .alloc [(.lit (.int .u8 0)), (.lit (.int .i64 0)), (.lit (.int .i64 0)), (.lit (.int .i64 0)), (.lit (.int .i64 0)), (.sl .nil 0 [])], none⟩,
     ⟨none, .store 6 (.tmp 1) (.tmp 6), none⟩]) (
  .seq (
   .ops [⟨some 7, .build [(.lit (.int .u8 0)), (.lit (.int .i64 0)), (.lit (.int .i64 0)), (.lit (.int .i64 0)), (.lit (.int .i64 0)), (.sl .nil 0 [])] [(0, 1, (.val (.lit (.int .u8 1))))], none⟩,
     ⟨some 2, .alloc [(.lit (.int .u8 0)), (.lit (.int .i64 0)), (.lit (.int .i64 0)), (.lit (.int .i64 0)), (.lit (.int .i64 0)), (.sl .nil 0 [])], none⟩,
     ⟨none, .store 6 (.tmp 2) (.tmp 7), none⟩]) (
  .seq (
   .ops [⟨some 8, .build [(.lit (.int .u8 0)), (.lit (.int .i64 0)), (.lit (.int .i64 0)), (.lit (.int .i64 0)), (.lit (.int .i64 0)), (.sl .nil 0 [])] [(0, 1, (.val (.lit (.int .u8 6)))), (2, 1, (.val (.lit (.int .i64 (-1))))), (3, 1, (.val (.lit (.int .i64 3))))], none⟩,
     ⟨some 9, .call (.val (.fn (.func 10) [] [])) [(.tmp 8)], none⟩,
     ⟨some 3, .val (.tmp 9), none⟩]) (
  .seq (
   .ops [⟨some 11, .build [(.lit (.int .u8 0)), (.lit (.int .i64 0)), (.lit (.int .i64 0)), (.lit (.int .i64 0)), (.lit (.int .i64 0)), (.sl .nil 0 [])] [(0, 1, (.val (.lit (.int .u8 12)))), (4, 1, (.val (.lit (.int .i64 5))))], none⟩,
     ⟨some 12, .call (.val (.fn (.func 24) [] [])) [(.tmp 11)], none⟩,
     ⟨some 10, .val (.tmp 12), none⟩,
     ⟨some 13, .extract (.tmp 10) 0, none⟩,
     ⟨some 14, .extract (.tmp 10) 1, none⟩,
     ⟨some 4, .val (.tmp 13), none⟩,
     ⟨some 5, .val (.tmp 14), none⟩]) (
  .seq a_works_e (
  .ret))))))

theorem c_bobbinlaw07_works : codeOf Tryd.prog {  } 8 = some (a_bobbinlaw07_works, [.tmp 0], 56) := by kernel_rfl

/-- bobbin/bobbinlaw07.one -/
def a_bobbinlaw07_one : ACode :=
  .seq (
   .ops [⟨some 4, .alloc [(.sl .nil 0 []), (.sl .nil 0 []), (.sl .nil 0 [])], none⟩]) (
  .seq (
   .ops [⟨some 5, .build [(.lit (.string ⟨#[]⟩)), (.lit (.int .i64 0)), (.lit (.int .i64 0))] [(0, 1, (.val (.lit (.string ⟨#[109]⟩)))), (1, 1, (.val (.lit (.int .i64 2))))], none⟩,
     ⟨some 6, .bslice false 3 1 [(.lit (.string ⟨#[]⟩)), (.lit (.int .i64 0)), (.lit (.int .i64 0))] [(0, 3, (.tmp 5))], none⟩,
     ⟨some 7, .bslice false 1 1 [(.lit (.string ⟨#[]⟩))] [(0, 1, (.val (.lit (.string ⟨#[108]⟩))))], none⟩,
     ⟨some 8, .val (.tmp 0), none⟩,
     ⟨some 9, .val (.tmp 1), none⟩,
     ⟨some 10, .build [(.lit (.string ⟨#[]⟩)), (.lit (.bool false)), (.lit (.int .i64 0)), (.lit (.int .i64 0)), (.sl .nil 0 [])] [(0, 1, (.val (.lit (.string ⟨#[116]⟩)))), (1, 1, (.val (.lit (.bool true)))), (3, 1, (.tmp 8)), (4, 1, (.tmp 9))], none⟩,
     ⟨some 11, .build [(.lit (.int .u8 0)), (.lit (.int .i64 0)), (.lit (.int .i64 0)), (.lit (.int .i64 0)), (.lit (.int .i64 0)), (.sl .nil 0 [])] [(0, 1, (.val (.lit (.int .u8 13))))], none⟩,
     ⟨some 12, .bslice false 6 1 [(.lit (.int .u8 0)), (.lit (.int .i64 0)), (.lit (.int .i64 0)), (.lit (.int .i64 0)), (.lit (.int .i64 0)), (.sl .nil 0 [])] [(0, 6, (.tmp 11))], none⟩,
     ⟨some 13, .build [(.lit (.string ⟨#[]⟩)), (.lit (.bool false)), (.lit (.int .i64 0)), (.lit (.int .i64 0)), (.sl .nil 0 [])] [(0, 1, (.val (.lit (.string ⟨#[102]⟩)))), (2, 1, (.val (.lit (.int .i64 2)))), (3, 1, (.val (.lit (.int .i64 2)))), (4, 1, (.tmp 12))], none⟩,
     ⟨some 14, .bslice false 5 2 [(.lit (.string ⟨#[]⟩)), (.lit (.bool false)), (.lit (.int .i64 0)), (.lit (.int .i64 0)), (.sl .nil 0 []), (.lit (.string ⟨#[]⟩)), (.lit (.bool false)), (.lit (.int .i64 0)), (.lit (.int .i64 0)), (.sl .nil 0 [])] [(0, 5, (.tmp 10)), (5, 5, (.tmp 13))], none⟩,
     ⟨some 15, .build [(.sl .nil 0 []), (.sl .nil 0 []), (.sl .nil 0 [])] [(0, 1, (.tmp 6)), (1, 1, (.tmp 7)), (2, 1, (.tmp 14))], none⟩,
     ⟨none, .store 3 (.tmp 4) (.tmp 15), none⟩]) (
  .ret))

theorem c_bobbinlaw07_one : codeOf Tryd.prog {  } 19 = some (a_bobbinlaw07_one, [.cell 4 3 true], 16) := by kernel_rfl

end Go.Proofs.YtanpcmkhhpaeiaaDoor
