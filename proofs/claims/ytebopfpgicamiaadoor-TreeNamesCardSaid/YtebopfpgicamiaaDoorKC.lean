/- The code of functions, compiled (printed by wip/tools/kp.py). -/
import Derived.Test.YtebopfpgicamiaaDoorProg
import Derived.Test.YtebopfpgicamiaaDoorM3
namespace Go.Proofs.YtebopfpgicamiaaDoor
set_option linter.unusedSimpArgs false
set_option linter.unusedVariables false
open Go Go.Fw
/-- bobbin/bobbinlaw02.expr -/
def a_bobbinlaw02_exprb1 : ACode :=
       .seq (
        .seq (
         .ops [⟨some 15, .val (.tmp 4), none⟩,
           ⟨some 16, .fieldAddr 3 (.tmp 1), none⟩,
           ⟨some 17, .iload false 1 (.tmp 16), none⟩,
           ⟨some 18, .len 1 (.tmp 17), none⟩,
           ⟨some 19, .bin .lss .num (.tmp 15) (.tmp 18), none⟩,
           ⟨some 20, .val (.tmp 19), none⟩,
           ⟨some 21, .val (.tmp 3), some (20, true)⟩,
           ⟨some 22, .bin .leq .num (.tmp 21) (.val (.lit (.int .i64 500))), some (20, true)⟩,
           ⟨some 23, .pick (.tmp 20) (.tmp 22) (.val (.lit (.bool false))), none⟩]) (
        .cond (.tmp 23) (
          .skip) (
          .exit 0))) (
       .seq (
        .block 1 (
          .ops [⟨some 26, .val (.tmp 3), none⟩,
            ⟨some 27, .fieldAddr 3 (.tmp 1), none⟩,
            ⟨some 28, .iload false 1 (.tmp 27), none⟩,
            ⟨some 29, .val (.tmp 4), none⟩,
            ⟨some 30, .indexAddr 5 (.tmp 28) (.tmp 29), none⟩,
            ⟨some 31, .load true 5 (.tmp 30), none⟩,
            ⟨some 32, .call (.val (.fn (.func 9) [] [])) [(.tmp 31)], none⟩,
            ⟨some 33, .bin .add .num (.tmp 26) (.tmp 32), none⟩,
            ⟨some 3, .val (.tmp 33), none⟩])) (
       .ops [⟨some 24, .val (.tmp 4), none⟩,
         ⟨some 25, .bin .add .num (.tmp 24) (.val (.lit (.int .i64 1))), none⟩,
         ⟨some 4, .val (.tmp 25), none⟩]))

def a_bobbinlaw02_expr : ACode :=
  .seq (
   .ops [⟨some 1, .box true (.tmp 0), none⟩,
     ⟨some 2, .val (.val (.lit (.int .i64 0))), none⟩]) (
  .seq (
   .ops [⟨some 3, .val (.val (.lit (.int .i64 1))), none⟩]) (
  .seq (
   .seq (
    .ops [⟨some 5, .fieldAddr 3 (.tmp 1), none⟩,
      ⟨some 6, .iload false 1 (.tmp 5), none⟩,
      ⟨some 7, .len 1 (.tmp 6), none⟩,
      ⟨some 8, .bin .gtr .num (.tmp 7) (.val (.lit (.int .i64 400))), none⟩,
      ⟨some 9, .val (.tmp 8), none⟩,
      ⟨some 10, .fieldAddr 1 (.tmp 1), some (9, false)⟩,
      ⟨some 11, .iload false 1 (.tmp 10), some (9, false)⟩,
      ⟨some 12, .len 0 (.tmp 11), some (9, false)⟩,
      ⟨some 13, .bin .gtr .num (.tmp 12) (.val (.lit (.int .i64 300))), some (9, false)⟩,
      ⟨some 14, .pick (.tmp 9) (.val (.lit (.bool true))) (.tmp 13), none⟩]) (
   .cond (.tmp 14) (
     .seq (
      .ops [⟨some 2, .val (.val (.lit (.int .i64 1000))), none⟩]) (
     .ret)) (
     .skip))) (
  .seq (
   .seq (
    .ops [⟨some 4, .val (.val (.lit (.int .i64 0))), none⟩]) (
   .block 0 (
     .loop a_bobbinlaw02_exprb1))) (
  .seq (
   .ops [⟨some 34, .val (.tmp 3), none⟩,
     ⟨some 2, .val (.tmp 34), none⟩]) (
  .ret)))))

theorem c_bobbinlaw02_expr : codeOf Tryd.prog { bz := [1], il := [6, 11, 17, 28] } 9 = some (a_bobbinlaw02_expr, [.tmp 2], 35) := by kernel_rfl

/-- bobbin/bobbinlaw02.stmts -/
def a_bobbinlaw02_stmtsb1 : ACode :=
               .seq (
                .seq (
                 .ops [⟨some 45, .val (.tmp 5), none⟩,
                   ⟨some 46, .val (.tmp 0), none⟩,
                   ⟨some 47, .val (.tmp 4), none⟩,
                   ⟨some 48, .indexAddr 8 (.tmp 46) (.tmp 47), none⟩,
                   ⟨some 49, .fieldAddr 4 (.tmp 48), none⟩,
                   ⟨some 50, .load false 1 (.tmp 49), none⟩,
                   ⟨some 51, .len 1 (.tmp 50), none⟩,
                   ⟨some 52, .bin .lss .num (.tmp 45) (.tmp 51), none⟩,
                   ⟨some 53, .val (.tmp 52), none⟩,
                   ⟨some 54, .val (.tmp 3), some (53, true)⟩,
                   ⟨some 55, .bin .leq .num (.tmp 54) (.val (.lit (.int .i64 500))), some (53, true)⟩,
                   ⟨some 56, .pick (.tmp 53) (.tmp 55) (.val (.lit (.bool false))), none⟩]) (
                .cond (.tmp 56) (
                  .skip) (
                  .exit 2))) (
               .seq (
                .block 3 (
                  .ops [⟨some 59, .val (.tmp 3), none⟩,
                    ⟨some 60, .val (.tmp 0), none⟩,
                    ⟨some 61, .val (.tmp 4), none⟩,
                    ⟨some 62, .indexAddr 8 (.tmp 60) (.tmp 61), none⟩,
                    ⟨some 63, .fieldAddr 4 (.tmp 62), none⟩,
                    ⟨some 64, .load false 1 (.tmp 63), none⟩,
                    ⟨some 65, .val (.tmp 5), none⟩,
                    ⟨some 66, .indexAddr 5 (.tmp 64) (.tmp 65), none⟩,
                    ⟨some 67, .load true 5 (.tmp 66), none⟩,
                    ⟨some 68, .call (.val (.fn (.func 9) [] [])) [(.tmp 67)], none⟩,
                    ⟨some 69, .bin .add .num (.tmp 59) (.tmp 68), none⟩,
                    ⟨some 3, .val (.tmp 69), none⟩])) (
               .ops [⟨some 57, .val (.tmp 5), none⟩,
                 ⟨some 58, .bin .add .num (.tmp 57) (.val (.lit (.int .i64 1))), none⟩,
                 ⟨some 5, .val (.tmp 58), none⟩]))

def a_bobbinlaw02_stmtsb2 : ACode :=
       .seq (
        .seq (
         .ops [⟨some 10, .val (.tmp 4), none⟩,
           ⟨some 11, .val (.tmp 0), none⟩,
           ⟨some 12, .len 1 (.tmp 11), none⟩,
           ⟨some 13, .bin .lss .num (.tmp 10) (.tmp 12), none⟩,
           ⟨some 14, .val (.tmp 13), none⟩,
           ⟨some 15, .val (.tmp 3), some (14, true)⟩,
           ⟨some 16, .bin .leq .num (.tmp 15) (.val (.lit (.int .i64 500))), some (14, true)⟩,
           ⟨some 17, .pick (.tmp 14) (.tmp 16) (.val (.lit (.bool false))), none⟩]) (
        .cond (.tmp 17) (
          .skip) (
          .exit 0))) (
       .seq (
        .block 1 (
          .seq (
           .seq (
            .ops [⟨some 20, .val (.tmp 0), none⟩,
              ⟨some 21, .val (.tmp 4), none⟩,
              ⟨some 22, .indexAddr 8 (.tmp 20) (.tmp 21), none⟩,
              ⟨some 23, .fieldAddr 4 (.tmp 22), none⟩,
              ⟨some 24, .load false 1 (.tmp 23), none⟩,
              ⟨some 25, .len 1 (.tmp 24), none⟩,
              ⟨some 26, .bin .gtr .num (.tmp 25) (.val (.lit (.int .i64 400))), none⟩,
              ⟨some 27, .val (.tmp 26), none⟩,
              ⟨some 28, .val (.tmp 0), some (27, false)⟩,
              ⟨some 29, .val (.tmp 4), some (27, false)⟩,
              ⟨some 30, .indexAddr 8 (.tmp 28) (.tmp 29), some (27, false)⟩,
              ⟨some 31, .fieldAddr 1 (.tmp 30), some (27, false)⟩,
              ⟨some 32, .load false 1 (.tmp 31), some (27, false)⟩,
              ⟨some 33, .len 0 (.tmp 32), some (27, false)⟩,
              ⟨some 34, .bin .gtr .num (.tmp 33) (.val (.lit (.int .i64 300))), some (27, false)⟩,
              ⟨some 35, .pick (.tmp 27) (.val (.lit (.bool true))) (.tmp 34), none⟩,
              ⟨some 36, .val (.tmp 35), none⟩,
              ⟨some 37, .val (.tmp 0), some (36, false)⟩,
              ⟨some 38, .val (.tmp 4), some (36, false)⟩,
              ⟨some 39, .indexAddr 8 (.tmp 37) (.tmp 38), some (36, false)⟩,
              ⟨some 40, .fieldAddr 2 (.tmp 39), some (36, false)⟩,
              ⟨some 41, .load false 1 (.tmp 40), some (36, false)⟩,
              ⟨some 42, .len 0 (.tmp 41), some (36, false)⟩,
              ⟨some 43, .bin .gtr .num (.tmp 42) (.val (.lit (.int .i64 300))), some (36, false)⟩,
              ⟨some 44, .pick (.tmp 36) (.val (.lit (.bool true))) (.tmp 43), none⟩]) (
           .cond (.tmp 44) (
             .seq (
              .ops [⟨some 2, .val (.val (.lit (.int .i64 1000))), none⟩]) (
             .ret)) (
             .skip))) (
          .seq (
           .seq (
            .ops [⟨some 5, .val (.val (.lit (.int .i64 0))), none⟩]) (
           .block 2 (
             .loop a_bobbinlaw02_stmtsb1))) (
          .seq (
           .ops [⟨some 70, .val (.tmp 3), none⟩,
             ⟨some 71, .bin .leq .num (.tmp 70) (.val (.lit (.int .i64 500))), none⟩]) (
          .cond (.tmp 71) (
            .ops [⟨some 72, .val (.tmp 3), none⟩,
              ⟨some 73, .val (.tmp 0), none⟩,
              ⟨some 74, .val (.tmp 4), none⟩,
              ⟨some 75, .indexAddr 8 (.tmp 73) (.tmp 74), none⟩,
              ⟨some 76, .fieldAddr 5 (.tmp 75), none⟩,
              ⟨some 77, .iload false 1 (.tmp 76), none⟩,
              ⟨some 80, .val (.tmp 0), none⟩,
              ⟨some 81, .val (.tmp 4), none⟩,
              ⟨some 82, .indexAddr 8 (.tmp 80) (.tmp 81), none⟩,
              ⟨some 83, .fieldAddr 6 (.tmp 82), none⟩,
              ⟨some 84, .iload false 1 (.tmp 83), none⟩,
              ⟨some 78, .call (.val (.fn (.func 28) [] [])) [(.tmp 77)], none⟩,
              ⟨some 79, .bin .add .num (.tmp 72) (.tmp 78), none⟩,
              ⟨some 85, .call (.val (.fn (.func 28) [] [])) [(.tmp 84)], none⟩,
              ⟨some 86, .bin .add .num (.tmp 79) (.tmp 85), none⟩,
              ⟨some 3, .val (.tmp 86), none⟩]) (
            .skip)))))) (
       .ops [⟨some 18, .val (.tmp 4), none⟩,
         ⟨some 19, .bin .add .num (.tmp 18) (.val (.lit (.int .i64 1))), none⟩,
         ⟨some 4, .val (.tmp 19), none⟩]))

def a_bobbinlaw02_stmts : ACode :=
  .seq (
   .ops [⟨some 2, .val (.val (.lit (.int .i64 0))), none⟩]) (
  .seq (
   .ops [⟨some 6, .val (.tmp 0), none⟩,
     ⟨some 7, .len 1 (.tmp 6), none⟩,
     ⟨some 3, .val (.tmp 7), none⟩]) (
  .seq (
   .seq (
    .ops [⟨some 8, .val (.tmp 3), none⟩,
      ⟨some 9, .bin .gtr .num (.tmp 8) (.val (.lit (.int .i64 400))), none⟩]) (
   .cond (.tmp 9) (
     .seq (
      .ops [⟨some 2, .val (.val (.lit (.int .i64 1000))), none⟩]) (
     .ret)) (
     .skip))) (
  .seq (
   .seq (
    .ops [⟨some 4, .val (.val (.lit (.int .i64 0))), none⟩]) (
   .block 0 (
     .loop a_bobbinlaw02_stmtsb2))) (
  .seq (
   .ops [⟨some 87, .val (.tmp 3), none⟩,
     ⟨some 2, .val (.tmp 87), none⟩]) (
  .ret)))))

theorem c_bobbinlaw02_stmts : codeOf Tryd.prog { il := [77, 84] } 28 = some (a_bobbinlaw02_stmts, [.tmp 2], 88) := by kernel_rfl

/-- bobbin/bobbinlaw02.long -/
def a_bobbinlaw02_longb1 : ACode :=
               .seq (
                .seq (
                 .ops [⟨some 36, .val (.tmp 5), none⟩,
                   ⟨some 37, .val (.tmp 0), none⟩,
                   ⟨some 38, .val (.tmp 4), none⟩,
                   ⟨some 39, .indexAddr 6 (.tmp 37) (.tmp 38), none⟩,
                   ⟨some 40, .fieldAddr 3 (.tmp 39), none⟩,
                   ⟨some 41, .load false 1 (.tmp 40), none⟩,
                   ⟨some 42, .len 1 (.tmp 41), none⟩,
                   ⟨some 43, .bin .lss .num (.tmp 36) (.tmp 42), none⟩]) (
                .cond (.tmp 43) (
                  .skip) (
                  .exit 2))) (
               .seq (
                .block 3 (
                  .seq (
                   .ops [⟨some 46, .val (.tmp 0), none⟩,
                     ⟨some 47, .val (.tmp 4), none⟩,
                     ⟨some 48, .indexAddr 6 (.tmp 46) (.tmp 47), none⟩,
                     ⟨some 49, .fieldAddr 3 (.tmp 48), none⟩,
                     ⟨some 50, .load false 1 (.tmp 49), none⟩,
                     ⟨some 51, .val (.tmp 5), none⟩,
                     ⟨some 52, .indexAddr 1 (.tmp 50) (.tmp 51), none⟩,
                     ⟨some 53, .load false 1 (.tmp 52), none⟩,
                     ⟨some 54, .len 0 (.tmp 53), none⟩,
                     ⟨some 55, .bin .gtr .num (.tmp 54) (.val (.lit (.int .i64 300))), none⟩]) (
                  .cond (.tmp 55) (
                    .seq (
                     .ops [⟨some 2, .val (.val (.lit (.bool true))), none⟩]) (
                    .ret)) (
                    .skip)))) (
               .ops [⟨some 44, .val (.tmp 5), none⟩,
                 ⟨some 45, .bin .add .num (.tmp 44) (.val (.lit (.int .i64 1))), none⟩,
                 ⟨some 5, .val (.tmp 45), none⟩]))

def a_bobbinlaw02_longb2 : ACode :=
       .seq (
        .seq (
         .ops [⟨some 10, .val (.tmp 4), none⟩,
           ⟨some 11, .val (.tmp 0), none⟩,
           ⟨some 12, .len 1 (.tmp 11), none⟩,
           ⟨some 13, .bin .lss .num (.tmp 10) (.tmp 12), none⟩,
           ⟨some 14, .val (.tmp 13), none⟩,
           ⟨some 15, .val (.tmp 3), some (14, true)⟩,
           ⟨some 16, .bin .leq .num (.tmp 15) (.val (.lit (.int .i64 800))), some (14, true)⟩,
           ⟨some 17, .pick (.tmp 14) (.tmp 16) (.val (.lit (.bool false))), none⟩]) (
        .cond (.tmp 17) (
          .skip) (
          .exit 0))) (
       .seq (
        .block 1 (
          .seq (
           .seq (
            .ops [⟨some 20, .val (.tmp 0), none⟩,
              ⟨some 21, .val (.tmp 4), none⟩,
              ⟨some 22, .indexAddr 6 (.tmp 20) (.tmp 21), none⟩,
              ⟨some 23, .fieldAddr 3 (.tmp 22), none⟩,
              ⟨some 24, .load false 1 (.tmp 23), none⟩,
              ⟨some 25, .len 1 (.tmp 24), none⟩,
              ⟨some 26, .bin .gtr .num (.tmp 25) (.val (.lit (.int .i64 100))), none⟩,
              ⟨some 27, .val (.tmp 26), none⟩,
              ⟨some 28, .val (.tmp 0), some (27, false)⟩,
              ⟨some 29, .val (.tmp 4), some (27, false)⟩,
              ⟨some 30, .indexAddr 6 (.tmp 28) (.tmp 29), some (27, false)⟩,
              ⟨some 31, .fieldAddr 1 (.tmp 30), some (27, false)⟩,
              ⟨some 32, .load false 1 (.tmp 31), some (27, false)⟩,
              ⟨some 33, .len 0 (.tmp 32), some (27, false)⟩,
              ⟨some 34, .bin .gtr .num (.tmp 33) (.val (.lit (.int .i64 300))), some (27, false)⟩,
              ⟨some 35, .pick (.tmp 27) (.val (.lit (.bool true))) (.tmp 34), none⟩]) (
           .cond (.tmp 35) (
             .seq (
              .ops [⟨some 2, .val (.val (.lit (.bool true))), none⟩]) (
             .ret)) (
             .skip))) (
          .seq (
           .seq (
            .ops [⟨some 5, .val (.val (.lit (.int .i64 0))), none⟩]) (
           .block 2 (
             .loop a_bobbinlaw02_longb1))) (
          .ops [⟨some 56, .val (.tmp 3), none⟩,
            ⟨some 57, .val (.tmp 0), none⟩,
            ⟨some 58, .val (.tmp 4), none⟩,
            ⟨some 59, .indexAddr 6 (.tmp 57) (.tmp 58), none⟩,
            ⟨some 60, .fieldAddr 4 (.tmp 59), none⟩,
            ⟨some 61, .load false 1 (.tmp 60), none⟩,
            ⟨some 62, .call (.val (.fn (.func 28) [] [])) [(.tmp 61)], none⟩,
            ⟨some 63, .bin .add .num (.tmp 56) (.tmp 62), none⟩,
            ⟨some 3, .val (.tmp 63), none⟩])))) (
       .ops [⟨some 18, .val (.tmp 4), none⟩,
         ⟨some 19, .bin .add .num (.tmp 18) (.val (.lit (.int .i64 1))), none⟩,
         ⟨some 4, .val (.tmp 19), none⟩]))

def a_bobbinlaw02_long : ACode :=
  .seq (
   .ops [⟨some 2, .val (.val (.lit (.bool false))), none⟩]) (
  .seq (
   .ops [⟨some 6, .val (.tmp 0), none⟩,
     ⟨some 7, .len 1 (.tmp 6), none⟩,
     ⟨some 3, .val (.tmp 7), none⟩]) (
  .seq (
   .seq (
    .ops [⟨some 8, .val (.tmp 3), none⟩,
      ⟨some 9, .bin .gtr .num (.tmp 8) (.val (.lit (.int .i64 300))), none⟩]) (
   .cond (.tmp 9) (
     .seq (
      .ops [⟨some 2, .val (.val (.lit (.bool true))), none⟩]) (
     .ret)) (
     .skip))) (
  .seq (
   .seq (
    .ops [⟨some 4, .val (.val (.lit (.int .i64 0))), none⟩]) (
   .block 0 (
     .loop a_bobbinlaw02_longb2))) (
  .seq (
   .ops [⟨some 64, .val (.tmp 3), none⟩,
     ⟨some 65, .bin .gtr .num (.tmp 64) (.val (.lit (.int .i64 800))), none⟩,
     ⟨some 2, .val (.tmp 65), none⟩]) (
  .ret)))))

theorem c_bobbinlaw02_long : codeOf Tryd.prog {  } 8 = some (a_bobbinlaw02_long, [.tmp 2], 66) := by kernel_rfl

/-- bobbin/bobbinlaw02.TreeAsks -/
def o_tas0 : List AOper :=
     [⟨some 33, .val (.tmp 0), none⟩,
     ⟨some 35, .val (.tmp 0), none⟩,
     ⟨some 34, .call (.val (.fn (.func 11) [] [])) [(.tmp 33)], none⟩,
     ⟨some 36, .call (.val (.fn (.func 12) [] [])) [(.tmp 35)], none⟩,
     ⟨some 37, .bin .eql .bool (.tmp 34) (.tmp 36), none⟩,
     ⟨some 38, .val (.tmp 37), none⟩]

def o_tas1 : List AOper :=
     [⟨some 39, .val (.tmp 0), some (38, true)⟩,
     ⟨some 41, .val (.tmp 0), some (38, true)⟩,
     ⟨some 40, .call (.val (.fn (.func 13) [] [])) [(.tmp 39)], some (38, true)⟩,
     ⟨some 42, .call (.val (.fn (.func 14) [] [])) [(.tmp 41)], some (38, true)⟩,
     ⟨some 43, .bin .eql .num (.tmp 40) (.tmp 42), some (38, true)⟩,
     ⟨some 44, .pick (.tmp 38) (.tmp 43) (.val (.lit (.bool false))), none⟩,
     ⟨some 45, .val (.tmp 44), none⟩]

def o_tas2 : List AOper :=
     [⟨some 46, .val (.tmp 0), some (45, true)⟩,
     ⟨some 48, .val (.tmp 0), some (45, true)⟩,
     ⟨some 47, .call (.val (.fn (.func 15) [] [])) [(.tmp 46)], some (45, true)⟩,
     ⟨some 49, .call (.val (.fn (.func 16) [] [])) [(.tmp 48)], some (45, true)⟩,
     ⟨some 50, .bin .eql .num (.tmp 47) (.tmp 49), some (45, true)⟩,
     ⟨some 51, .pick (.tmp 45) (.tmp 50) (.val (.lit (.bool false))), none⟩,
     ⟨some 52, .val (.tmp 51), none⟩]

def o_tas3 : List AOper :=
     [⟨some 53, .val (.tmp 0), some (52, true)⟩,
     ⟨some 54, .val (.tmp 1), some (52, true)⟩,
     ⟨some 56, .val (.tmp 0), some (52, true)⟩,
     ⟨some 57, .val (.tmp 1), some (52, true)⟩,
     ⟨some 55, .call (.val (.fn (.func 17) [] [])) [(.tmp 53), (.tmp 54)], some (52, true)⟩,
     ⟨some 58, .call (.val (.fn (.func 18) [] [])) [(.tmp 56), (.tmp 57)], some (52, true)⟩,
     ⟨some 59, .bin .eql .bool (.tmp 55) (.tmp 58), some (52, true)⟩,
     ⟨some 60, .pick (.tmp 52) (.tmp 59) (.val (.lit (.bool false))), none⟩,
     ⟨some 61, .val (.tmp 60), none⟩]

def o_tas4 : List AOper :=
     [⟨some 62, .val (.tmp 0), some (61, true)⟩,
     ⟨some 63, .val (.tmp 0), some (61, true)⟩,
     ⟨some 64, .call (.val (.fn (.func 17) [] [])) [(.tmp 62), (.tmp 63)], some (61, true)⟩,
     ⟨some 65, .pick (.tmp 61) (.tmp 64) (.val (.lit (.bool false))), none⟩,
     ⟨some 66, .val (.tmp 65), none⟩]

def o_tas5 : List AOper :=
     [⟨some 67, .iload true 5 (.tmp 7), some (66, true)⟩,
     ⟨some 69, .iload true 5 (.tmp 7), some (66, true)⟩,
     ⟨some 68, .call (.val (.fn (.func 19) [] [])) [(.tmp 67)], some (66, true)⟩,
     ⟨some 70, .call (.val (.fn (.func 20) [] [])) [(.tmp 69)], some (66, true)⟩,
     ⟨some 71, .bin .eql .bool (.tmp 68) (.tmp 70), some (66, true)⟩,
     ⟨some 72, .pick (.tmp 66) (.tmp 71) (.val (.lit (.bool false))), none⟩,
     ⟨some 73, .val (.tmp 72), none⟩]

def o_tas6 : List AOper :=
     [⟨some 74, .iload true 5 (.tmp 7), some (73, true)⟩,
     ⟨some 75, .iload true 5 (.tmp 8), some (73, true)⟩,
     ⟨some 77, .iload true 5 (.tmp 7), some (73, true)⟩,
     ⟨some 78, .iload true 5 (.tmp 8), some (73, true)⟩,
     ⟨some 76, .call (.val (.fn (.func 21) [] [])) [(.tmp 74), (.tmp 75)], some (73, true)⟩,
     ⟨some 79, .call (.val (.fn (.func 22) [] [])) [(.tmp 77), (.tmp 78)], some (73, true)⟩,
     ⟨some 80, .bin .eql .bool (.tmp 76) (.tmp 79), some (73, true)⟩,
     ⟨some 81, .pick (.tmp 73) (.tmp 80) (.val (.lit (.bool false))), none⟩,
     ⟨some 82, .val (.tmp 81), none⟩]

def o_tas7 : List AOper :=
     [⟨some 83, .iload true 5 (.tmp 7), some (82, true)⟩,
     ⟨some 84, .iload true 5 (.tmp 7), some (82, true)⟩,
     ⟨some 85, .call (.val (.fn (.func 21) [] [])) [(.tmp 83), (.tmp 84)], some (82, true)⟩,
     ⟨some 86, .pick (.tmp 82) (.tmp 85) (.val (.lit (.bool false))), none⟩,
     ⟨some 87, .val (.tmp 86), none⟩]

def o_tas8 : List AOper :=
     [⟨some 88, .val (.tmp 4), some (87, true)⟩,
     ⟨some 90, .val (.tmp 4), some (87, true)⟩,
     ⟨some 89, .call (.val (.fn (.func 23) [] [])) [(.tmp 88)], some (87, true)⟩,
     ⟨some 91, .call (.val (.fn (.func 24) [] [])) [(.tmp 90)], some (87, true)⟩,
     ⟨some 92, .bin .eql .bool (.tmp 89) (.tmp 91), some (87, true)⟩,
     ⟨some 93, .pick (.tmp 87) (.tmp 92) (.val (.lit (.bool false))), none⟩,
     ⟨some 94, .val (.tmp 93), none⟩]

def o_tas9 : List AOper :=
     [⟨some 95, .call (.val (.fn (.func 10) [] [])) [], some (94, true)⟩,
     ⟨some 96, .pick (.tmp 94) (.tmp 95) (.val (.lit (.bool false))), none⟩,
     ⟨some 10, .val (.tmp 96), none⟩]

def a_bobbinlaw02_TreeAsks : ACode :=
  .seq (
   .ops [⟨some 7, .box true (.tmp 2), none⟩,
     ⟨some 8, .box true (.tmp 3), none⟩,
     ⟨some 10, .val (.val (.lit (.bool false))), none⟩]) (
  .seq (
   .seq (
    .ops [⟨some 11, .val (.tmp 0), none⟩,
      ⟨some 12, .call (.val (.fn (.func 8) [] [])) [(.tmp 11)], none⟩,
      ⟨some 13, .val (.tmp 12), none⟩,
      ⟨some 14, .val (.tmp 1), some (13, false)⟩,
      ⟨some 15, .call (.val (.fn (.func 8) [] [])) [(.tmp 14)], some (13, false)⟩,
      ⟨some 16, .pick (.tmp 13) (.val (.lit (.bool true))) (.tmp 15), none⟩,
      ⟨some 17, .val (.tmp 16), none⟩,
      ⟨some 18, .iload true 5 (.tmp 7), some (17, false)⟩,
      ⟨some 19, .call (.val (.fn (.func 9) [] [])) [(.tmp 18)], some (17, false)⟩,
      ⟨some 20, .bin .gtr .num (.tmp 19) (.val (.lit (.int .i64 500))), some (17, false)⟩,
      ⟨some 21, .pick (.tmp 17) (.val (.lit (.bool true))) (.tmp 20), none⟩,
      ⟨some 22, .val (.tmp 21), none⟩,
      ⟨some 23, .iload true 5 (.tmp 8), some (22, false)⟩,
      ⟨some 24, .call (.val (.fn (.func 9) [] [])) [(.tmp 23)], some (22, false)⟩,
      ⟨some 25, .bin .gtr .num (.tmp 24) (.val (.lit (.int .i64 500))), some (22, false)⟩,
      ⟨some 26, .pick (.tmp 22) (.val (.lit (.bool true))) (.tmp 25), none⟩,
      ⟨some 27, .val (.tmp 26), none⟩,
      ⟨some 28, .val (.tmp 4), some (27, false)⟩,
      ⟨some 29, .len 0 (.tmp 28), some (27, false)⟩,
      ⟨some 30, .bin .gtr .num (.tmp 29) (.val (.lit (.int .i64 500))), some (27, false)⟩,
      ⟨some 31, .pick (.tmp 27) (.val (.lit (.bool true))) (.tmp 30), none⟩]) (
   .cond (.tmp 31) (
     .seq (
      .ops [⟨some 32, .call (.val (.fn (.func 10) [] [])) [], none⟩,
        ⟨some 10, .val (.tmp 32), none⟩]) (
     .ret)) (
     .skip))) (
  .seq (
   .ops (o_tas0 ++ (o_tas1 ++ (o_tas2 ++ (o_tas3 ++ (o_tas4 ++ (o_tas5 ++ (o_tas6 ++ (o_tas7 ++ (o_tas8 ++ o_tas9)))))))))) (
  .ret)))

theorem c_bobbinlaw02_TreeAsks : codeOf Tryd.prog { bz := [7, 8], il := [18, 23, 67, 69, 74, 75, 77, 78, 83, 84] } 3 = some (a_bobbinlaw02_TreeAsks, [.tmp 10], 97) := by kernel_rfl

/-- bobbin/bobbinlaw02.awake -/
def o_awk0 : List AOper :=
     [⟨some 14, .load true 6 (.tmp 1), none⟩,
     ⟨some 15, .bslice false 6 1 [(.lit (.int .u8 0)), (.lit (.string ⟨#[]⟩)), (.lit (.int .i64 0)), (.sl .nil 0 []), (.sl .nil 0 []), (.lit (.int .i64 0))] [(0, 6, (.tmp 14))], none⟩,
     ⟨some 16, .call (.val (.fn (.func 11) [] [])) [(.tmp 15)], none⟩,
     ⟨some 17, .val (.tmp 16), none⟩]

def o_awk1 : List AOper :=
     [⟨some 18, .load true 6 (.tmp 1), some (17, true)⟩,
     ⟨some 19, .bslice false 6 1 [(.lit (.int .u8 0)), (.lit (.string ⟨#[]⟩)), (.lit (.int .i64 0)), (.sl .nil 0 []), (.sl .nil 0 []), (.lit (.int .i64 0))] [(0, 6, (.tmp 18))], some (17, true)⟩,
     ⟨some 20, .call (.val (.fn (.func 13) [] [])) [(.tmp 19)], some (17, true)⟩,
     ⟨some 21, .bin .eql .num (.tmp 20) (.val (.lit (.int .i64 0))), some (17, true)⟩,
     ⟨some 22, .pick (.tmp 17) (.tmp 21) (.val (.lit (.bool false))), none⟩,
     ⟨some 23, .val (.tmp 22), none⟩]

def o_awk2 : List AOper :=
     [⟨some 24, .load true 6 (.tmp 1), some (23, true)⟩,
     ⟨some 25, .bslice false 6 1 [(.lit (.int .u8 0)), (.lit (.string ⟨#[]⟩)), (.lit (.int .i64 0)), (.sl .nil 0 []), (.sl .nil 0 []), (.lit (.int .i64 0))] [(0, 6, (.tmp 24))], some (23, true)⟩,
     ⟨some 26, .call (.val (.fn (.func 15) [] [])) [(.tmp 25)], some (23, true)⟩,
     ⟨some 27, .bin .eql .num (.tmp 26) (.val (.lit (.int .i64 1))), some (23, true)⟩,
     ⟨some 28, .pick (.tmp 23) (.tmp 27) (.val (.lit (.bool false))), none⟩,
     ⟨some 29, .val (.tmp 28), none⟩]

def o_awk3 : List AOper :=
     [⟨some 30, .load true 6 (.tmp 2), some (29, true)⟩,
     ⟨some 31, .bslice false 6 1 [(.lit (.int .u8 0)), (.lit (.string ⟨#[]⟩)), (.lit (.int .i64 0)), (.sl .nil 0 []), (.sl .nil 0 []), (.lit (.int .i64 0))] [(0, 6, (.tmp 30))], some (29, true)⟩,
     ⟨some 32, .call (.val (.fn (.func 11) [] [])) [(.tmp 31)], some (29, true)⟩,
     ⟨some 33, .pick (.tmp 29) (.tmp 32) (.val (.lit (.bool false))), none⟩,
     ⟨some 34, .val (.tmp 33), none⟩]

def o_awk4 : List AOper :=
     [⟨some 35, .load true 6 (.tmp 2), some (34, true)⟩,
     ⟨some 36, .bslice false 6 1 [(.lit (.int .u8 0)), (.lit (.string ⟨#[]⟩)), (.lit (.int .i64 0)), (.sl .nil 0 []), (.sl .nil 0 []), (.lit (.int .i64 0))] [(0, 6, (.tmp 35))], some (34, true)⟩,
     ⟨some 37, .call (.val (.fn (.func 13) [] [])) [(.tmp 36)], some (34, true)⟩,
     ⟨some 38, .bin .eql .num (.tmp 37) (.val (.lit (.int .i64 4))), some (34, true)⟩,
     ⟨some 39, .pick (.tmp 34) (.tmp 38) (.val (.lit (.bool false))), none⟩,
     ⟨some 40, .val (.tmp 39), none⟩]

def o_awk5 : List AOper :=
     [⟨some 41, .load true 6 (.tmp 2), some (40, true)⟩,
     ⟨some 42, .bslice false 6 1 [(.lit (.int .u8 0)), (.lit (.string ⟨#[]⟩)), (.lit (.int .i64 0)), (.sl .nil 0 []), (.sl .nil 0 []), (.lit (.int .i64 0))] [(0, 6, (.tmp 41))], some (40, true)⟩,
     ⟨some 43, .call (.val (.fn (.func 15) [] [])) [(.tmp 42)], some (40, true)⟩,
     ⟨some 44, .bin .eql .num (.tmp 43) (.val (.lit (.int .i64 6))), some (40, true)⟩,
     ⟨some 45, .pick (.tmp 40) (.tmp 44) (.val (.lit (.bool false))), none⟩,
     ⟨some 46, .val (.tmp 45), none⟩]

def o_awk6 : List AOper :=
     [⟨some 47, .load true 6 (.tmp 1), some (46, true)⟩,
     ⟨some 48, .bslice false 6 1 [(.lit (.int .u8 0)), (.lit (.string ⟨#[]⟩)), (.lit (.int .i64 0)), (.sl .nil 0 []), (.sl .nil 0 []), (.lit (.int .i64 0))] [(0, 6, (.tmp 47))], some (46, true)⟩,
     ⟨some 49, .load true 6 (.tmp 2), some (46, true)⟩,
     ⟨some 50, .bslice false 6 1 [(.lit (.int .u8 0)), (.lit (.string ⟨#[]⟩)), (.lit (.int .i64 0)), (.sl .nil 0 []), (.sl .nil 0 []), (.lit (.int .i64 0))] [(0, 6, (.tmp 49))], some (46, true)⟩,
     ⟨some 51, .call (.val (.fn (.func 17) [] [])) [(.tmp 48), (.tmp 50)], some (46, true)⟩,
     ⟨some 52, .un .not (.tmp 51), some (46, true)⟩,
     ⟨some 53, .pick (.tmp 46) (.tmp 52) (.val (.lit (.bool false))), none⟩,
     ⟨some 54, .val (.tmp 53), none⟩]

def o_awk7 : List AOper :=
     [⟨some 55, .call (.val (.fn (.func 23) [] [])) [(.val (.lit (.string ⟨#[120]⟩)))], some (54, true)⟩,
     ⟨some 56, .pick (.tmp 54) (.tmp 55) (.val (.lit (.bool false))), none⟩,
     ⟨some 57, .val (.tmp 56), none⟩,
     ⟨some 58, .call (.val (.fn (.func 23) [] [])) [(.val (.lit (.string ⟨#[105, 102]⟩)))], some (57, true)⟩,
     ⟨some 59, .un .not (.tmp 58), some (57, true)⟩,
     ⟨some 60, .pick (.tmp 57) (.tmp 59) (.val (.lit (.bool false))), none⟩,
     ⟨some 0, .val (.tmp 60), none⟩]

def o_awi0 : List AOper :=
     [⟨some 4, .build [(.lit (.int .u8 0)), (.lit (.string ⟨#[]⟩)), (.lit (.int .i64 0)), (.sl .nil 0 []), (.lit (.int .i64 0))] [(0, 1, (.val (.lit (.int .u8 1)))), (2, 1, (.val (.lit (.int .i64 1))))], none⟩,
     ⟨some 5, .build [(.lit (.int .u8 0)), (.lit (.string ⟨#[]⟩)), (.lit (.int .i64 0)), (.sl .nil 0 []), (.lit (.int .i64 0))] [(0, 1, (.val (.lit (.int .u8 1)))), (2, 1, (.val (.lit (.int .i64 2))))], none⟩,
     ⟨some 6, .bslice false 5 1 [(.lit (.int .u8 0)), (.lit (.string ⟨#[]⟩)), (.lit (.int .i64 0)), (.sl .nil 0 []), (.lit (.int .i64 0))] [(0, 5, (.tmp 5))], none⟩,
     ⟨some 7, .build [(.lit (.int .u8 0)), (.lit (.string ⟨#[]⟩)), (.lit (.int .i64 0)), (.sl .nil 0 []), (.lit (.int .i64 0))] [(0, 1, (.val (.lit (.int .u8 4)))), (1, 1, (.val (.lit (.string ⟨#[97]⟩)))), (3, 1, (.tmp 6))], none⟩,
     ⟨some 8, .bslice false 5 2 [(.lit (.int .u8 0)), (.lit (.string ⟨#[]⟩)), (.lit (.int .i64 0)), (.sl .nil 0 []), (.lit (.int .i64 0)), (.lit (.int .u8 0)), (.lit (.string ⟨#[]⟩)), (.lit (.int .i64 0)), (.sl .nil 0 []), (.lit (.int .i64 0))] [(0, 5, (.tmp 4)), (5, 5, (.tmp 7))], none⟩]

def o_awi1 : List AOper :=
     [⟨some 9, .build [(.lit (.int .u8 0)), (.lit (.string ⟨#[]⟩)), (.lit (.int .i64 0)), (.sl .nil 0 []), (.lit (.int .i64 0))] [(0, 1, (.val (.lit (.int .u8 7)))), (3, 1, (.tmp 8))], none⟩,
     ⟨some 10, .bslice false 5 1 [(.lit (.int .u8 0)), (.lit (.string ⟨#[]⟩)), (.lit (.int .i64 0)), (.sl .nil 0 []), (.lit (.int .i64 0))] [(0, 5, (.tmp 9))], none⟩,
     ⟨some 11, .build [(.lit (.int .u8 0)), (.lit (.string ⟨#[]⟩)), (.lit (.string ⟨#[]⟩)), (.lit (.bool false)), (.sl .nil 0 []), (.sl .nil 0 []), (.sl .nil 0 []), (.lit (.int .i64 0))] [(0, 1, (.val (.lit (.int .u8 7)))), (4, 1, (.tmp 10))], none⟩,
     ⟨some 12, .bslice false 8 1 [(.lit (.int .u8 0)), (.lit (.string ⟨#[]⟩)), (.lit (.string ⟨#[]⟩)), (.lit (.bool false)), (.sl .nil 0 []), (.sl .nil 0 []), (.sl .nil 0 []), (.lit (.int .i64 0))] [(0, 8, (.tmp 11))], none⟩,
     ⟨some 13, .build [(.lit (.int .u8 0)), (.lit (.string ⟨#[]⟩)), (.lit (.int .i64 0)), (.sl .nil 0 []), (.sl .nil 0 []), (.lit (.int .i64 0))] [(0, 1, (.val (.lit (.int .u8 5)))), (1, 1, (.val (.lit (.string ⟨#[116]⟩)))), (4, 1, (.tmp 12))], none⟩,
     ⟨some 2, .alloc [(.lit (.int .u8 0)), (.lit (.string ⟨#[]⟩)), (.lit (.int .i64 0)), (.sl .nil 0 []), (.sl .nil 0 []), (.lit (.int .i64 0))], none⟩,
     ⟨none, .store 6 (.tmp 2) (.tmp 13), none⟩]

def a_bobbinlaw02_awake : ACode :=
  .seq (
   .ops [⟨some 0, .val (.val (.lit (.bool false))), none⟩]) (
  .seq (
   .ops [⟨some 3, .build [(.lit (.int .u8 0)), (.lit (.string ⟨#[]⟩)), (.lit (.int .i64 0)), (.sl .nil 0 []), (.sl .nil 0 []), (.lit (.int .i64 0))] [(0, 1, (.val (.lit (.int .u8 1)))), (1, 1, (.val (.lit (.string ⟨#[120]⟩))))], none⟩,
     ⟨some 1, .alloc [(.lit (.int .u8 0)), (.lit (.string ⟨#[]⟩)), (.lit (.int .i64 0)), (.sl .nil 0 []), (.sl .nil 0 []), (.lit (.int .i64 0))], none⟩,
     ⟨none, .store 6 (.tmp 1) (.tmp 3), none⟩]) (
  .seq (
   .ops (o_awi0 ++ o_awi1)) (
  .seq (
   .ops (o_awk0 ++ (o_awk1 ++ (o_awk2 ++ (o_awk3 ++ (o_awk4 ++ (o_awk5 ++ (o_awk6 ++ o_awk7)))))))) (
  .ret))))

theorem c_bobbinlaw02_awake : codeOf Tryd.prog {  } 10 = some (a_bobbinlaw02_awake, [.tmp 0], 61) := by kernel_rfl

end Go.Proofs.YtebopfpgicamiaaDoor
