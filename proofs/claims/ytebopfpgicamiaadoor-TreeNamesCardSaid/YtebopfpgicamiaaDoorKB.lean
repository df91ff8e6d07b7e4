/- The code of functions, compiled (printed by wip/tools/kp.py). -/
import Derived.Test.YtebopfpgicamiaaDoorProg
import Derived.Test.YtebopfpgicamiaaDoorM3
namespace Go.Proofs.YtebopfpgicamiaaDoor
set_option linter.unusedSimpArgs false
set_option linter.unusedVariables false
open Go Go.Fw
/-- bobbin/bobbinref02.MayExpr -/
def a_rme_name : ACode :=
    .ops [⟨some 70, .val (.tmp 4), none⟩,
      ⟨some 71, .val (.tmp 70), none⟩,
      ⟨some 72, .fieldAddr 1 (.tmp 1), some (71, true)⟩,
      ⟨some 73, .iload false 1 (.tmp 72), some (71, true)⟩,
      ⟨some 74, .call (.val (.fn (.func 24) [] [])) [(.tmp 73)], some (71, true)⟩,
      ⟨some 75, .un .not (.tmp 74), some (71, true)⟩,
      ⟨some 76, .pick (.tmp 71) (.tmp 75) (.val (.lit (.bool false))), none⟩,
      ⟨some 77, .val (.tmp 76), none⟩,
      ⟨some 78, .val (.tmp 4), some (77, false)⟩,
      ⟨some 79, .un .not (.tmp 78), some (77, false)⟩,
      ⟨some 80, .val (.tmp 79), some (77, false)⟩,
      ⟨some 81, .fieldAddr 1 (.tmp 1), some (80, true)⟩,
      ⟨some 82, .iload false 1 (.tmp 81), some (80, true)⟩,
      ⟨some 83, .bin .neq .num (.tmp 82) (.val (.lit (.string ⟨#[]⟩))), some (80, true)⟩,
      ⟨some 84, .pick (.tmp 80) (.tmp 83) (.val (.lit (.bool false))), some (77, false)⟩,
      ⟨some 85, .pick (.tmp 77) (.val (.lit (.bool true))) (.tmp 84), none⟩]

def a_rme_rest : ACode :=
  .seq (
   .seq (
    .ops [⟨some 50, .fieldAddr 3 (.tmp 1), none⟩,
      ⟨some 51, .iload false 1 (.tmp 50), none⟩,
      ⟨some 52, .len 1 (.tmp 51), none⟩,
      ⟨some 53, .val (.tmp 3), none⟩,
      ⟨some 54, .bin .neq .num (.tmp 52) (.tmp 53), none⟩,
      ⟨some 55, .val (.tmp 54), none⟩,
      ⟨some 56, .fieldAddr 0 (.tmp 1), some (55, false)⟩,
      ⟨some 57, .iload false 1 (.tmp 56), some (55, false)⟩,
      ⟨some 58, .bin .neq .num (.tmp 57) (.val (.lit (.int .u8 1))), some (55, false)⟩,
      ⟨some 59, .val (.tmp 58), some (55, false)⟩,
      ⟨some 60, .fieldAddr 0 (.tmp 1), some (59, true)⟩,
      ⟨some 61, .iload false 1 (.tmp 60), some (59, true)⟩,
      ⟨some 62, .bin .neq .num (.tmp 61) (.val (.lit (.int .u8 2))), some (59, true)⟩,
      ⟨some 63, .pick (.tmp 59) (.tmp 62) (.val (.lit (.bool false))), some (55, false)⟩,
      ⟨some 64, .val (.tmp 63), some (55, false)⟩,
      ⟨some 65, .fieldAddr 2 (.tmp 1), some (64, true)⟩,
      ⟨some 66, .iload false 1 (.tmp 65), some (64, true)⟩,
      ⟨some 67, .bin .neq .num (.tmp 66) (.val (.lit (.int .i64 0))), some (64, true)⟩,
      ⟨some 68, .pick (.tmp 64) (.tmp 67) (.val (.lit (.bool false))), some (55, false)⟩,
      ⟨some 69, .pick (.tmp 55) (.val (.lit (.bool true))) (.tmp 68), none⟩]) (
   .cond (.tmp 69) (
     .seq (
      .ops [⟨some 2, .val (.val (.lit (.bool false))), none⟩]) (
     .ret)) (
     .skip))) (
  .seq (
   .seq a_rme_name (
   .cond (.tmp 85) (
     .seq (
      .ops [⟨some 2, .val (.val (.lit (.bool false))), none⟩]) (
     .ret)) (
     .skip))) (
  .seq (
   .ops [⟨some 86, .fieldAddr 3 (.tmp 1), none⟩,
     ⟨some 87, .iload false 1 (.tmp 86), none⟩,
     ⟨some 88, .call (.val (.fn (.func 43) [] [])) [(.tmp 87)], none⟩,
     ⟨some 2, .val (.tmp 88), none⟩]) (
  .ret)))

def a_bobbinref02_MayExpr : ACode :=
  .seq (
   .ops [⟨some 1, .box true (.tmp 0), none⟩,
     ⟨some 2, .val (.val (.lit (.bool false))), none⟩]) (
  .seq (
   .ops [⟨some 3, .val (.val (.lit (.int .i64 0))), none⟩,
     ⟨some 4, .val (.val (.lit (.bool false))), none⟩]) (
  .seq (
   .block 0 (
     .seq (
      .ops [⟨some 6, .fieldAddr 0 (.tmp 1), none⟩,
        ⟨some 7, .iload false 1 (.tmp 6), none⟩,
        ⟨some 8, .bin .eql .num (.tmp 7) (.val (.lit (.int .u8 1))), none⟩,
        ⟨some 5, .val (.tmp 8), none⟩]) (
     .cond (.tmp 5) (
       .seq (
        .ops [⟨some 9, .fieldAddr 2 (.tmp 1), none⟩,
          ⟨some 10, .iload false 1 (.tmp 9), none⟩,
          ⟨some 11, .bin .lss .num (.tmp 10) (.val (.lit (.int .i64 0))), none⟩]) (
       .cond (.tmp 11) (
         .seq (
          .ops [⟨some 2, .val (.val (.lit (.bool false))), none⟩]) (
         .ret)) (
         .skip))) (
       .seq (
        .ops [⟨some 13, .fieldAddr 0 (.tmp 1), none⟩,
          ⟨some 14, .iload false 1 (.tmp 13), none⟩,
          ⟨some 15, .bin .eql .num (.tmp 14) (.val (.lit (.int .u8 2))), none⟩,
          ⟨some 12, .val (.tmp 15), none⟩]) (
       .cond (.tmp 12) (
         .seq (
          .ops [⟨some 16, .fieldAddr 2 (.tmp 1), none⟩,
            ⟨some 17, .iload false 1 (.tmp 16), none⟩,
            ⟨some 18, .bin .neq .num (.tmp 17) (.val (.lit (.int .i64 0))), none⟩,
            ⟨some 19, .val (.tmp 18), none⟩,
            ⟨some 20, .fieldAddr 2 (.tmp 1), some (19, true)⟩,
            ⟨some 21, .iload false 1 (.tmp 20), some (19, true)⟩,
            ⟨some 22, .bin .neq .num (.tmp 21) (.val (.lit (.int .i64 1))), some (19, true)⟩,
            ⟨some 23, .pick (.tmp 19) (.tmp 22) (.val (.lit (.bool false))), none⟩]) (
         .cond (.tmp 23) (
           .seq (
            .ops [⟨some 2, .val (.val (.lit (.bool false))), none⟩]) (
           .ret)) (
           .skip))) (
         .seq (
          .ops [⟨some 25, .fieldAddr 0 (.tmp 1), none⟩,
            ⟨some 26, .iload false 1 (.tmp 25), none⟩,
            ⟨some 27, .bin .eql .num (.tmp 26) (.val (.lit (.int .u8 3))), none⟩,
            ⟨some 24, .val (.tmp 27), none⟩]) (
         .cond (.tmp 24) (
           .ops [⟨some 4, .val (.val (.lit (.bool true))), none⟩]) (
           .seq (
            .ops [⟨some 29, .fieldAddr 0 (.tmp 1), none⟩,
              ⟨some 30, .iload false 1 (.tmp 29), none⟩,
              ⟨some 31, .bin .eql .num (.tmp 30) (.val (.lit (.int .u8 4))), none⟩,
              ⟨some 28, .val (.tmp 31), none⟩]) (
           .cond (.tmp 28) (
             .seq (
              .ops [⟨some 4, .val (.val (.lit (.bool true))), none⟩]) (
             .ops [⟨some 3, .val (.val (.lit (.int .i64 1))), none⟩])) (
             .seq (
              .ops [⟨some 33, .fieldAddr 0 (.tmp 1), none⟩,
                ⟨some 34, .iload false 1 (.tmp 33), none⟩,
                ⟨some 35, .bin .eql .num (.tmp 34) (.val (.lit (.int .u8 5))), none⟩,
                ⟨some 36, .val (.tmp 35), none⟩,
                ⟨some 37, .fieldAddr 0 (.tmp 1), some (36, false)⟩,
                ⟨some 38, .iload false 1 (.tmp 37), some (36, false)⟩,
                ⟨some 39, .bin .eql .num (.tmp 38) (.val (.lit (.int .u8 6))), some (36, false)⟩,
                ⟨some 40, .pick (.tmp 36) (.val (.lit (.bool true))) (.tmp 39), none⟩,
                ⟨some 32, .val (.tmp 40), none⟩]) (
             .cond (.tmp 32) (
               .ops [⟨some 3, .val (.val (.lit (.int .i64 1))), none⟩]) (
               .seq (
                .ops [⟨some 42, .fieldAddr 0 (.tmp 1), none⟩,
                  ⟨some 43, .iload false 1 (.tmp 42), none⟩,
                  ⟨some 44, .bin .geq .num (.tmp 43) (.val (.lit (.int .u8 7))), none⟩,
                  ⟨some 45, .val (.tmp 44), none⟩,
                  ⟨some 46, .fieldAddr 0 (.tmp 1), some (45, true)⟩,
                  ⟨some 47, .iload false 1 (.tmp 46), some (45, true)⟩,
                  ⟨some 48, .bin .leq .num (.tmp 47) (.val (.lit (.int .u8 17))), some (45, true)⟩,
                  ⟨some 49, .pick (.tmp 45) (.tmp 48) (.val (.lit (.bool false))), none⟩,
                  ⟨some 41, .val (.tmp 49), none⟩]) (
               .cond (.tmp 41) (
                 .ops [⟨some 3, .val (.val (.lit (.int .i64 2))), none⟩]) (
                 .seq (
                  .ops [⟨some 2, .val (.val (.lit (.bool false))), none⟩]) (
                 .ret))))))))))))))) a_rme_rest))

theorem c_bobbinref02_MayExpr : codeOf Tryd.prog { bz := [1], il := [7, 10, 14, 17, 21, 26, 30, 34, 38, 43, 47, 51, 57, 61, 66, 73, 82, 87] } 20 = some (a_bobbinref02_MayExpr, [.tmp 2], 89) := by kernel_rfl

/-- bobbin/bobbinref02.exprs -/
def a_bobbinref02_exprsb1 : ACode :=
       .seq (
        .seq (
         .ops [⟨some 4, .val (.tmp 3), none⟩,
           ⟨some 5, .val (.tmp 0), none⟩,
           ⟨some 6, .len 1 (.tmp 5), none⟩,
           ⟨some 7, .bin .lss .num (.tmp 4) (.tmp 6), none⟩]) (
        .cond (.tmp 7) (
          .skip) (
          .exit 0))) (
       .seq (
        .block 1 (
          .seq (
           .ops [⟨some 10, .val (.tmp 0), none⟩,
             ⟨some 11, .val (.tmp 3), none⟩,
             ⟨some 12, .indexAddr 5 (.tmp 10) (.tmp 11), none⟩,
             ⟨some 13, .load true 5 (.tmp 12), none⟩,
             ⟨some 14, .call (.val (.fn (.func 20) [] [])) [(.tmp 13)], none⟩,
             ⟨some 15, .un .not (.tmp 14), none⟩]) (
          .cond (.tmp 15) (
            .seq (
             .ops [⟨some 2, .val (.val (.lit (.bool false))), none⟩]) (
            .ret)) (
            .skip)))) (
       .ops [⟨some 8, .val (.tmp 3), none⟩,
         ⟨some 9, .bin .add .num (.tmp 8) (.val (.lit (.int .i64 1))), none⟩,
         ⟨some 3, .val (.tmp 9), none⟩]))

def a_bobbinref02_exprs : ACode :=
  .seq (
   .ops [⟨some 2, .val (.val (.lit (.bool false))), none⟩]) (
  .seq (
   .seq (
    .ops [⟨some 3, .val (.val (.lit (.int .i64 0))), none⟩]) (
   .block 0 (
     .loop a_bobbinref02_exprsb1))) (
  .seq (
   .ops [⟨some 2, .val (.val (.lit (.bool true))), none⟩]) (
  .ret)))

theorem c_bobbinref02_exprs : codeOf Tryd.prog {  } 43 = some (a_bobbinref02_exprs, [.tmp 2], 16) := by kernel_rfl

/-- bobbin/bobbinref02.stmts -/
def a_bobbinref02_stmtsb1 : ACode :=
       .seq (
        .seq (
         .ops [⟨some 4, .val (.tmp 3), none⟩,
           ⟨some 5, .val (.tmp 0), none⟩,
           ⟨some 6, .len 1 (.tmp 5), none⟩,
           ⟨some 7, .bin .lss .num (.tmp 4) (.tmp 6), none⟩]) (
        .cond (.tmp 7) (
          .skip) (
          .exit 0))) (
       .seq (
        .block 1 (
          .seq (
           .ops [⟨some 10, .val (.tmp 0), none⟩,
             ⟨some 11, .val (.tmp 3), none⟩,
             ⟨some 12, .indexAddr 8 (.tmp 10) (.tmp 11), none⟩,
             ⟨some 13, .load true 8 (.tmp 12), none⟩,
             ⟨some 14, .call (.val (.fn (.func 77) [] [])) [(.tmp 13)], none⟩,
             ⟨some 15, .un .not (.tmp 14), none⟩]) (
          .cond (.tmp 15) (
            .seq (
             .ops [⟨some 2, .val (.val (.lit (.bool false))), none⟩]) (
            .ret)) (
            .skip)))) (
       .ops [⟨some 8, .val (.tmp 3), none⟩,
         ⟨some 9, .bin .add .num (.tmp 8) (.val (.lit (.int .i64 1))), none⟩,
         ⟨some 3, .val (.tmp 9), none⟩]))

def a_bobbinref02_stmts : ACode :=
  .seq (
   .ops [⟨some 2, .val (.val (.lit (.bool false))), none⟩]) (
  .seq (
   .seq (
    .ops [⟨some 3, .val (.val (.lit (.int .i64 0))), none⟩]) (
   .block 0 (
     .loop a_bobbinref02_stmtsb1))) (
  .seq (
   .ops [⟨some 2, .val (.val (.lit (.bool true))), none⟩]) (
  .ret)))

theorem c_bobbinref02_stmts : codeOf Tryd.prog {  } 55 = some (a_bobbinref02_stmts, [.tmp 2], 16) := by kernel_rfl

/-- bobbin/bobbinref02.stmt -/
def a_rst_name : ACode :=
    .ops [⟨some 64, .val (.tmp 4), none⟩,
      ⟨some 65, .val (.tmp 64), none⟩,
      ⟨some 66, .fieldAddr 1 (.tmp 1), some (65, true)⟩,
      ⟨some 67, .iload false 1 (.tmp 66), some (65, true)⟩,
      ⟨some 68, .call (.val (.fn (.func 24) [] [])) [(.tmp 67)], some (65, true)⟩,
      ⟨some 69, .un .not (.tmp 68), some (65, true)⟩,
      ⟨some 70, .pick (.tmp 65) (.tmp 69) (.val (.lit (.bool false))), none⟩,
      ⟨some 71, .val (.tmp 70), none⟩,
      ⟨some 72, .val (.tmp 4), some (71, false)⟩,
      ⟨some 73, .un .not (.tmp 72), some (71, false)⟩,
      ⟨some 74, .val (.tmp 73), some (71, false)⟩,
      ⟨some 75, .fieldAddr 1 (.tmp 1), some (74, true)⟩,
      ⟨some 76, .iload false 1 (.tmp 75), some (74, true)⟩,
      ⟨some 77, .bin .neq .num (.tmp 76) (.val (.lit (.string ⟨#[]⟩))), some (74, true)⟩,
      ⟨some 78, .pick (.tmp 74) (.tmp 77) (.val (.lit (.bool false))), some (71, false)⟩,
      ⟨some 79, .pick (.tmp 71) (.val (.lit (.bool true))) (.tmp 78), none⟩]

def o_rst0 : List AOper :=
     [⟨some 80, .fieldAddr 4 (.tmp 1), none⟩,
     ⟨some 81, .iload false 1 (.tmp 80), none⟩,
     ⟨some 82, .len 1 (.tmp 81), none⟩,
     ⟨some 83, .val (.tmp 3), none⟩,
     ⟨some 84, .bin .eql .num (.tmp 82) (.tmp 83), none⟩,
     ⟨some 85, .val (.tmp 84), none⟩,
     ⟨some 86, .val (.tmp 5), some (85, true)⟩,
     ⟨some 87, .val (.tmp 86), some (85, true)⟩,
     ⟨some 88, .fieldAddr 5 (.tmp 1), some (87, false)⟩,
     ⟨some 89, .iload false 1 (.tmp 88), some (87, false)⟩,
     ⟨some 90, .len 1 (.tmp 89), some (87, false)⟩,
     ⟨some 91, .bin .eql .num (.tmp 90) (.val (.lit (.int .i64 0))), some (87, false)⟩,
     ⟨some 92, .pick (.tmp 87) (.val (.lit (.bool true))) (.tmp 91), some (85, true)⟩,
     ⟨some 93, .pick (.tmp 85) (.tmp 92) (.val (.lit (.bool false))), none⟩,
     ⟨some 94, .val (.tmp 93), none⟩,
     ⟨some 95, .val (.tmp 6), some (94, true)⟩,
     ⟨some 96, .val (.tmp 95), some (94, true)⟩,
     ⟨some 97, .fieldAddr 6 (.tmp 1), some (96, false)⟩,
     ⟨some 98, .iload false 1 (.tmp 97), some (96, false)⟩,
     ⟨some 99, .len 1 (.tmp 98), some (96, false)⟩,
     ⟨some 100, .bin .eql .num (.tmp 99) (.val (.lit (.int .i64 0))), some (96, false)⟩,
     ⟨some 101, .pick (.tmp 96) (.val (.lit (.bool true))) (.tmp 100), some (94, true)⟩,
     ⟨some 102, .pick (.tmp 94) (.tmp 101) (.val (.lit (.bool false))), none⟩,
     ⟨some 103, .val (.tmp 102), none⟩]

def o_rst1 : List AOper :=
     [⟨some 104, .fieldAddr 4 (.tmp 1), some (103, true)⟩,
     ⟨some 105, .iload false 1 (.tmp 104), some (103, true)⟩,
     ⟨some 106, .call (.val (.fn (.func 43) [] [])) [(.tmp 105)], some (103, true)⟩,
     ⟨some 107, .pick (.tmp 103) (.tmp 106) (.val (.lit (.bool false))), none⟩,
     ⟨some 108, .val (.tmp 107), none⟩,
     ⟨some 109, .fieldAddr 5 (.tmp 1), some (108, true)⟩,
     ⟨some 110, .iload false 1 (.tmp 109), some (108, true)⟩,
     ⟨some 111, .call (.val (.fn (.func 55) [] [])) [(.tmp 110)], some (108, true)⟩,
     ⟨some 112, .pick (.tmp 108) (.tmp 111) (.val (.lit (.bool false))), none⟩,
     ⟨some 113, .val (.tmp 112), none⟩,
     ⟨some 114, .fieldAddr 6 (.tmp 1), some (113, true)⟩,
     ⟨some 115, .iload false 1 (.tmp 114), some (113, true)⟩,
     ⟨some 116, .call (.val (.fn (.func 55) [] [])) [(.tmp 115)], some (113, true)⟩,
     ⟨some 117, .pick (.tmp 113) (.tmp 116) (.val (.lit (.bool false))), none⟩,
     ⟨some 2, .val (.tmp 117), none⟩]

def a_rst_e : ACode :=
  .seq (
   .ops (o_rst0 ++ o_rst1)) (
  .ret)

def a_rst_rest : ACode :=
  .seq (
   .seq (
    .ops [⟨some 52, .fieldAddr 0 (.tmp 1), none⟩,
      ⟨some 53, .iload false 1 (.tmp 52), none⟩,
      ⟨some 54, .bin .neq .num (.tmp 53) (.val (.lit (.int .u8 8))), none⟩,
      ⟨some 55, .val (.tmp 54), none⟩,
      ⟨some 56, .fieldAddr 2 (.tmp 1), some (55, true)⟩,
      ⟨some 57, .iload false 1 (.tmp 56), some (55, true)⟩,
      ⟨some 58, .bin .neq .num (.tmp 57) (.val (.lit (.string ⟨#[]⟩))), some (55, true)⟩,
      ⟨some 59, .val (.tmp 58), some (55, true)⟩,
      ⟨some 60, .fieldAddr 3 (.tmp 1), some (59, false)⟩,
      ⟨some 61, .iload false 1 (.tmp 60), some (59, false)⟩,
      ⟨some 62, .pick (.tmp 59) (.val (.lit (.bool true))) (.tmp 61), some (55, true)⟩,
      ⟨some 63, .pick (.tmp 55) (.tmp 62) (.val (.lit (.bool false))), none⟩]) (
   .cond (.tmp 63) (
     .seq (
      .ops [⟨some 2, .val (.val (.lit (.bool false))), none⟩]) (
     .ret)) (
     .skip))) (
  .seq (
   .seq a_rst_name (
   .cond (.tmp 79) (
     .seq (
      .ops [⟨some 2, .val (.val (.lit (.bool false))), none⟩]) (
     .ret)) (
     .skip))) a_rst_e)

def a_bobbinref02_stmt : ACode :=
  .seq (
   .ops [⟨some 1, .box true (.tmp 0), none⟩,
     ⟨some 2, .val (.val (.lit (.bool false))), none⟩]) (
  .seq (
   .ops [⟨some 3, .val (.val (.lit (.int .i64 1))), none⟩,
     ⟨some 4, .val (.val (.lit (.bool true))), none⟩,
     ⟨some 5, .val (.val (.lit (.bool false))), none⟩,
     ⟨some 6, .val (.val (.lit (.bool false))), none⟩]) (
  .seq (
   .seq (
    .ops [⟨some 7, .fieldAddr 0 (.tmp 1), none⟩,
      ⟨some 8, .iload false 1 (.tmp 7), none⟩]) (
   .block 0 (
     .seq (
      .seq (
       .ops [⟨some 10, .bin .eql .num (.tmp 8) (.val (.lit (.int .u8 1))), none⟩,
         ⟨some 9, .val (.tmp 10), none⟩]) (
      .cond (.tmp 9) (
        .skip) (
        .ops [⟨some 11, .bin .eql .num (.tmp 8) (.val (.lit (.int .u8 2))), none⟩,
          ⟨some 9, .val (.tmp 11), none⟩]))) (
     .cond (.tmp 9) (
       .skip) (
       .seq (
        .ops [⟨some 13, .bin .eql .num (.tmp 8) (.val (.lit (.int .u8 3))), none⟩,
          ⟨some 12, .val (.tmp 13), none⟩]) (
       .cond (.tmp 12) (
         .ops [⟨some 3, .val (.val (.lit (.int .i64 2))), none⟩]) (
         .seq (
          .ops [⟨some 15, .bin .eql .num (.tmp 8) (.val (.lit (.int .u8 4))), none⟩,
            ⟨some 14, .val (.tmp 15), none⟩]) (
         .cond (.tmp 14) (
           .ops [⟨some 4, .val (.val (.lit (.bool false))), none⟩,
             ⟨some 5, .val (.val (.lit (.bool true))), none⟩,
             ⟨some 6, .val (.val (.lit (.bool true))), none⟩]) (
           .seq (
            .ops [⟨some 17, .bin .eql .num (.tmp 8) (.val (.lit (.int .u8 5))), none⟩,
              ⟨some 16, .val (.tmp 17), none⟩]) (
           .cond (.tmp 16) (
             .ops [⟨some 4, .val (.val (.lit (.bool false))), none⟩,
               ⟨some 5, .val (.val (.lit (.bool true))), none⟩]) (
             .seq (
              .ops [⟨some 19, .bin .eql .num (.tmp 8) (.val (.lit (.int .u8 6))), none⟩,
                ⟨some 18, .val (.tmp 19), none⟩]) (
             .cond (.tmp 18) (
               .ops [⟨some 3, .val (.val (.lit (.int .i64 0))), none⟩,
                 ⟨some 5, .val (.val (.lit (.bool true))), none⟩]) (
               .seq (
                .seq (
                 .ops [⟨some 21, .bin .eql .num (.tmp 8) (.val (.lit (.int .u8 7))), none⟩,
                   ⟨some 20, .val (.tmp 21), none⟩]) (
                .cond (.tmp 20) (
                  .skip) (
                  .ops [⟨some 22, .bin .eql .num (.tmp 8) (.val (.lit (.int .u8 9))), none⟩,
                    ⟨some 20, .val (.tmp 22), none⟩]))) (
               .cond (.tmp 20) (
                 .ops [⟨some 4, .val (.val (.lit (.bool false))), none⟩]) (
                 .seq (
                  .ops [⟨some 24, .bin .eql .num (.tmp 8) (.val (.lit (.int .u8 8))), none⟩,
                    ⟨some 23, .val (.tmp 24), none⟩]) (
                 .cond (.tmp 23) (
                   .seq (
                    .seq (
                     .ops [⟨some 25, .fieldAddr 4 (.tmp 1), none⟩,
                       ⟨some 26, .iload false 1 (.tmp 25), none⟩,
                       ⟨some 27, .len 1 (.tmp 26), none⟩,
                       ⟨some 28, .bin .gtr .num (.tmp 27) (.val (.lit (.int .i64 8))), none⟩,
                       ⟨some 29, .val (.tmp 28), none⟩,
                       ⟨some 30, .fieldAddr 2 (.tmp 1), some (29, false)⟩,
                       ⟨some 31, .iload false 1 (.tmp 30), some (29, false)⟩,
                       ⟨some 32, .bin .eql .num (.tmp 31) (.val (.lit (.string ⟨#[]⟩))), some (29, false)⟩,
                       ⟨some 33, .val (.tmp 32), some (29, false)⟩,
                       ⟨some 34, .fieldAddr 3 (.tmp 1), some (33, true)⟩,
                       ⟨some 35, .iload false 1 (.tmp 34), some (33, true)⟩,
                       ⟨some 36, .pick (.tmp 33) (.tmp 35) (.val (.lit (.bool false))), some (29, false)⟩,
                       ⟨some 37, .pick (.tmp 29) (.val (.lit (.bool true))) (.tmp 36), none⟩,
                       ⟨some 38, .val (.tmp 37), none⟩,
                       ⟨some 39, .fieldAddr 2 (.tmp 1), some (38, false)⟩,
                       ⟨some 40, .iload false 1 (.tmp 39), some (38, false)⟩,
                       ⟨some 41, .bin .neq .num (.tmp 40) (.val (.lit (.string ⟨#[]⟩))), some (38, false)⟩,
                       ⟨some 42, .val (.tmp 41), some (38, false)⟩,
                       ⟨some 43, .fieldAddr 2 (.tmp 1), some (42, true)⟩,
                       ⟨some 44, .iload false 1 (.tmp 43), some (42, true)⟩,
                       ⟨some 45, .call (.val (.fn (.func 24) [] [])) [(.tmp 44)], some (42, true)⟩,
                       ⟨some 46, .un .not (.tmp 45), some (42, true)⟩,
                       ⟨some 47, .pick (.tmp 42) (.tmp 46) (.val (.lit (.bool false))), some (38, false)⟩,
                       ⟨some 48, .pick (.tmp 38) (.val (.lit (.bool true))) (.tmp 47), none⟩]) (
                    .cond (.tmp 48) (
                      .seq (
                       .ops [⟨some 2, .val (.val (.lit (.bool false))), none⟩]) (
                      .ret)) (
                      .skip))) (
                   .ops [⟨some 49, .fieldAddr 4 (.tmp 1), none⟩,
                     ⟨some 50, .iload false 1 (.tmp 49), none⟩,
                     ⟨some 51, .len 1 (.tmp 50), none⟩,
                     ⟨some 3, .val (.tmp 51), none⟩])) (
                   .seq (
                    .ops [⟨some 2, .val (.val (.lit (.bool false))), none⟩]) (
                   .ret)))))))))))))))))) a_rst_rest))

theorem c_bobbinref02_stmt : codeOf Tryd.prog { bz := [1], il := [8, 26, 31, 35, 40, 44, 50, 53, 57, 61, 67, 76, 81, 89, 98, 105, 110, 115] } 77 = some (a_bobbinref02_stmt, [.tmp 2], 118) := by kernel_rfl

/-- bobbin/bobbinref02.decl -/
def a_bobbinref02_declb1 : ACode :=
       .seq (
        .seq (
         .ops [⟨some 20, .val (.tmp 3), none⟩,
           ⟨some 21, .fieldAddr 3 (.tmp 1), none⟩,
           ⟨some 22, .iload false 1 (.tmp 21), none⟩,
           ⟨some 23, .len 1 (.tmp 22), none⟩,
           ⟨some 24, .bin .lss .num (.tmp 20) (.tmp 23), none⟩]) (
        .cond (.tmp 24) (
          .skip) (
          .exit 0))) (
       .seq (
        .block 1 (
          .seq (
           .ops [⟨some 27, .fieldAddr 3 (.tmp 1), none⟩,
             ⟨some 28, .iload false 1 (.tmp 27), none⟩,
             ⟨some 29, .val (.tmp 3), none⟩,
             ⟨some 30, .indexAddr 1 (.tmp 28) (.tmp 29), none⟩,
             ⟨some 31, .load false 1 (.tmp 30), none⟩,
             ⟨some 32, .call (.val (.fn (.func 24) [] [])) [(.tmp 31)], none⟩,
             ⟨some 33, .un .not (.tmp 32), none⟩]) (
          .cond (.tmp 33) (
            .seq (
             .ops [⟨some 2, .val (.val (.lit (.bool false))), none⟩]) (
            .ret)) (
            .skip)))) (
       .ops [⟨some 25, .val (.tmp 3), none⟩,
         ⟨some 26, .bin .add .num (.tmp 25) (.val (.lit (.int .i64 1))), none⟩,
         ⟨some 3, .val (.tmp 26), none⟩]))

def a_rde_rest : ACode :=
  .seq (
   .seq (
    .ops [⟨some 34, .fieldAddr 0 (.tmp 1), none⟩,
      ⟨some 35, .iload false 1 (.tmp 34), none⟩]) (
   .block 2 (
     .seq (
      .ops [⟨some 37, .bin .eql .num (.tmp 35) (.val (.lit (.int .u8 1))), none⟩,
        ⟨some 36, .val (.tmp 37), none⟩]) (
     .cond (.tmp 36) (
       .seq (
        .ops [⟨some 38, .fieldAddr 3 (.tmp 1), none⟩,
          ⟨some 39, .iload false 1 (.tmp 38), none⟩,
          ⟨some 40, .len 1 (.tmp 39), none⟩,
          ⟨some 41, .bin .eql .num (.tmp 40) (.val (.lit (.int .i64 0))), none⟩,
          ⟨some 42, .val (.tmp 41), none⟩,
          ⟨some 43, .fieldAddr 4 (.tmp 1), some (42, true)⟩,
          ⟨some 44, .iload false 1 (.tmp 43), some (42, true)⟩,
          ⟨some 45, .len 1 (.tmp 44), some (42, true)⟩,
          ⟨some 46, .bin .eql .num (.tmp 45) (.val (.lit (.int .i64 0))), some (42, true)⟩,
          ⟨some 47, .pick (.tmp 42) (.tmp 46) (.val (.lit (.bool false))), none⟩,
          ⟨some 2, .val (.tmp 47), none⟩]) (
       .ret)) (
       .seq (
        .ops [⟨some 49, .bin .eql .num (.tmp 35) (.val (.lit (.int .u8 2))), none⟩,
          ⟨some 48, .val (.tmp 49), none⟩]) (
       .cond (.tmp 48) (
         .seq (
          .ops [⟨some 50, .fieldAddr 2 (.tmp 1), none⟩,
            ⟨some 51, .iload false 1 (.tmp 50), none⟩,
            ⟨some 52, .bin .geq .num (.tmp 51) (.val (.lit (.int .i64 1))), none⟩,
            ⟨some 53, .val (.tmp 52), none⟩,
            ⟨some 54, .fieldAddr 2 (.tmp 1), some (53, true)⟩,
            ⟨some 55, .iload false 1 (.tmp 54), some (53, true)⟩,
            ⟨some 56, .bin .leq .num (.tmp 55) (.val (.lit (.int .i64 1024))), some (53, true)⟩,
            ⟨some 57, .pick (.tmp 53) (.tmp 56) (.val (.lit (.bool false))), none⟩,
            ⟨some 58, .val (.tmp 57), none⟩,
            ⟨some 59, .fieldAddr 3 (.tmp 1), some (58, true)⟩,
            ⟨some 60, .iload false 1 (.tmp 59), some (58, true)⟩,
            ⟨some 61, .len 1 (.tmp 60), some (58, true)⟩,
            ⟨some 62, .bin .eql .num (.tmp 61) (.val (.lit (.int .i64 0))), some (58, true)⟩,
            ⟨some 63, .pick (.tmp 58) (.tmp 62) (.val (.lit (.bool false))), none⟩,
            ⟨some 64, .val (.tmp 63), none⟩,
            ⟨some 65, .fieldAddr 4 (.tmp 1), some (64, true)⟩,
            ⟨some 66, .iload false 1 (.tmp 65), some (64, true)⟩,
            ⟨some 67, .len 1 (.tmp 66), some (64, true)⟩,
            ⟨some 68, .bin .eql .num (.tmp 67) (.val (.lit (.int .i64 0))), some (64, true)⟩,
            ⟨some 69, .pick (.tmp 64) (.tmp 68) (.val (.lit (.bool false))), none⟩,
            ⟨some 2, .val (.tmp 69), none⟩]) (
         .ret)) (
         .seq (
          .ops [⟨some 71, .bin .eql .num (.tmp 35) (.val (.lit (.int .u8 3))), none⟩,
            ⟨some 70, .val (.tmp 71), none⟩]) (
         .cond (.tmp 70) (
           .seq (
            .ops [⟨some 72, .fieldAddr 2 (.tmp 1), none⟩,
              ⟨some 73, .iload false 1 (.tmp 72), none⟩,
              ⟨some 74, .bin .eql .num (.tmp 73) (.val (.lit (.int .i64 0))), none⟩,
              ⟨some 75, .val (.tmp 74), none⟩,
              ⟨some 76, .fieldAddr 3 (.tmp 1), some (75, true)⟩,
              ⟨some 77, .iload false 1 (.tmp 76), some (75, true)⟩,
              ⟨some 78, .len 1 (.tmp 77), some (75, true)⟩,
              ⟨some 79, .bin .eql .num (.tmp 78) (.val (.lit (.int .i64 0))), some (75, true)⟩,
              ⟨some 80, .pick (.tmp 75) (.tmp 79) (.val (.lit (.bool false))), none⟩,
              ⟨some 81, .val (.tmp 80), none⟩,
              ⟨some 82, .fieldAddr 4 (.tmp 1), some (81, true)⟩,
              ⟨some 83, .iload false 1 (.tmp 82), some (81, true)⟩,
              ⟨some 84, .len 1 (.tmp 83), some (81, true)⟩,
              ⟨some 85, .bin .eql .num (.tmp 84) (.val (.lit (.int .i64 0))), some (81, true)⟩,
              ⟨some 86, .pick (.tmp 81) (.tmp 85) (.val (.lit (.bool false))), none⟩,
              ⟨some 2, .val (.tmp 86), none⟩]) (
           .ret)) (
           .seq (
            .ops [⟨some 88, .bin .eql .num (.tmp 35) (.val (.lit (.int .u8 4))), none⟩,
              ⟨some 87, .val (.tmp 88), none⟩]) (
           .cond (.tmp 87) (
             .seq (
              .ops [⟨some 89, .fieldAddr 2 (.tmp 1), none⟩,
                ⟨some 90, .iload false 1 (.tmp 89), none⟩,
                ⟨some 91, .bin .eql .num (.tmp 90) (.val (.lit (.int .i64 0))), none⟩,
                ⟨some 2, .val (.tmp 91), none⟩]) (
             .ret)) (
             .seq (
              .ops [⟨some 93, .bin .eql .num (.tmp 35) (.val (.lit (.int .u8 5))), none⟩,
                ⟨some 92, .val (.tmp 93), none⟩]) (
             .cond (.tmp 92) (
               .seq (
                .ops [⟨some 94, .fieldAddr 2 (.tmp 1), none⟩,
                  ⟨some 95, .iload false 1 (.tmp 94), none⟩,
                  ⟨some 96, .bin .eql .num (.tmp 95) (.val (.lit (.int .i64 0))), none⟩,
                  ⟨some 97, .val (.tmp 96), none⟩,
                  ⟨some 98, .fieldAddr 3 (.tmp 1), some (97, true)⟩,
                  ⟨some 99, .iload false 1 (.tmp 98), some (97, true)⟩,
                  ⟨some 100, .len 1 (.tmp 99), some (97, true)⟩,
                  ⟨some 101, .bin .eql .num (.tmp 100) (.val (.lit (.int .i64 0))), some (97, true)⟩,
                  ⟨some 102, .pick (.tmp 97) (.tmp 101) (.val (.lit (.bool false))), none⟩,
                  ⟨some 2, .val (.tmp 102), none⟩]) (
               .ret)) (
               .skip))))))))))))) (
  .seq (
   .ops [⟨some 2, .val (.val (.lit (.bool false))), none⟩]) (
  .ret))

def a_bobbinref02_decl : ACode :=
  .seq (
   .ops [⟨some 1, .box true (.tmp 0), none⟩,
     ⟨some 2, .val (.val (.lit (.bool false))), none⟩]) (
  .seq (
   .seq (
    .ops [⟨some 4, .fieldAddr 1 (.tmp 1), none⟩,
      ⟨some 5, .iload false 1 (.tmp 4), none⟩,
      ⟨some 6, .call (.val (.fn (.func 24) [] [])) [(.tmp 5)], none⟩,
      ⟨some 7, .un .not (.tmp 6), none⟩,
      ⟨some 8, .val (.tmp 7), none⟩,
      ⟨some 9, .fieldAddr 3 (.tmp 1), some (8, false)⟩,
      ⟨some 10, .iload false 1 (.tmp 9), some (8, false)⟩,
      ⟨some 11, .len 1 (.tmp 10), some (8, false)⟩,
      ⟨some 12, .bin .gtr .num (.tmp 11) (.val (.lit (.int .i64 8))), some (8, false)⟩,
      ⟨some 13, .pick (.tmp 8) (.val (.lit (.bool true))) (.tmp 12), none⟩,
      ⟨some 14, .val (.tmp 13), none⟩,
      ⟨some 15, .fieldAddr 4 (.tmp 1), some (14, false)⟩,
      ⟨some 16, .iload false 1 (.tmp 15), some (14, false)⟩,
      ⟨some 17, .call (.val (.fn (.func 55) [] [])) [(.tmp 16)], some (14, false)⟩,
      ⟨some 18, .un .not (.tmp 17), some (14, false)⟩,
      ⟨some 19, .pick (.tmp 14) (.val (.lit (.bool true))) (.tmp 18), none⟩]) (
   .cond (.tmp 19) (
     .seq (
      .ops [⟨some 2, .val (.val (.lit (.bool false))), none⟩]) (
     .ret)) (
     .skip))) (
  .seq (
   .seq (
    .ops [⟨some 3, .val (.val (.lit (.int .i64 0))), none⟩]) (
   .block 0 (
     .loop a_bobbinref02_declb1))) a_rde_rest))

theorem c_bobbinref02_decl : codeOf Tryd.prog { bz := [1], il := [5, 10, 16, 22, 28, 35, 39, 44, 51, 55, 60, 66, 73, 77, 83, 90, 95, 99] } 31 = some (a_bobbinref02_decl, [.tmp 2], 103) := by kernel_rfl

/-- bobbin/bobbinref02.May -/
def a_bobbinref02_Mayb1 : ACode :=
       .seq (
        .seq (
         .ops [⟨some 7, .val (.tmp 3), none⟩,
           ⟨some 8, .val (.tmp 0), none⟩,
           ⟨some 9, .len 1 (.tmp 8), none⟩,
           ⟨some 10, .bin .lss .num (.tmp 7) (.tmp 9), none⟩]) (
        .cond (.tmp 10) (
          .skip) (
          .exit 0))) (
       .seq (
        .block 1 (
          .seq (
           .ops [⟨some 13, .val (.tmp 0), none⟩,
             ⟨some 14, .val (.tmp 3), none⟩,
             ⟨some 15, .indexAddr 6 (.tmp 13) (.tmp 14), none⟩,
             ⟨some 16, .load true 6 (.tmp 15), none⟩,
             ⟨some 17, .call (.val (.fn (.func 31) [] [])) [(.tmp 16)], none⟩,
             ⟨some 18, .un .not (.tmp 17), none⟩]) (
          .cond (.tmp 18) (
            .seq (
             .ops [⟨some 2, .val (.val (.lit (.bool false))), none⟩]) (
            .ret)) (
            .skip)))) (
       .ops [⟨some 11, .val (.tmp 3), none⟩,
         ⟨some 12, .bin .add .num (.tmp 11) (.val (.lit (.int .i64 1))), none⟩,
         ⟨some 3, .val (.tmp 12), none⟩]))

def a_bobbinref02_May : ACode :=
  .seq (
   .ops [⟨some 2, .val (.val (.lit (.bool false))), none⟩]) (
  .seq (
   .seq (
    .ops [⟨some 4, .val (.tmp 0), none⟩,
      ⟨some 5, .len 1 (.tmp 4), none⟩,
      ⟨some 6, .bin .gtr .num (.tmp 5) (.val (.lit (.int .i64 256))), none⟩]) (
   .cond (.tmp 6) (
     .seq (
      .ops [⟨some 2, .val (.val (.lit (.bool false))), none⟩]) (
     .ret)) (
     .skip))) (
  .seq (
   .seq (
    .ops [⟨some 3, .val (.val (.lit (.int .i64 0))), none⟩]) (
   .block 0 (
     .loop a_bobbinref02_Mayb1))) (
  .seq (
   .ops [⟨some 19, .val (.tmp 0), none⟩,
     ⟨some 20, .call (.val (.fn (.func 14) [] [])) [(.tmp 19)], none⟩,
     ⟨some 21, .bin .leq .num (.tmp 20) (.val (.lit (.int .i64 60))), none⟩,
     ⟨some 2, .val (.tmp 21), none⟩]) (
  .ret))))

theorem c_bobbinref02_May : codeOf Tryd.prog {  } 12 = some (a_bobbinref02_May, [.tmp 2], 22) := by kernel_rfl

/-- bobbin/bobbinref02.expr -/
def a_bobbinref02_expr : ACode :=
  .seq (
   .ops [⟨some 1, .box true (.tmp 0), none⟩,
     ⟨some 2, .val (.val (.lit (.int .i64 0))), none⟩]) (
  .seq (
   .ops [⟨some 3, .fieldAddr 3 (.tmp 1), none⟩,
     ⟨some 4, .iload false 1 (.tmp 3), none⟩,
     ⟨some 5, .call (.val (.fn (.func 60) [] [])) [(.tmp 4)], none⟩,
     ⟨some 6, .bin .add .num (.val (.lit (.int .i64 1))) (.tmp 5), none⟩,
     ⟨some 2, .val (.tmp 6), none⟩]) (
  .ret))

theorem c_bobbinref02_expr : codeOf Tryd.prog { bz := [1], il := [4] } 78 = some (a_bobbinref02_expr, [.tmp 2], 7) := by kernel_rfl

/-- bobbin/bobbinref02.deepest -/
def a_bobbinref02_deepestb1 : ACode :=
       .seq (
        .seq (
         .ops [⟨some 5, .val (.tmp 4), none⟩,
           ⟨some 6, .val (.tmp 0), none⟩,
           ⟨some 7, .len 1 (.tmp 6), none⟩,
           ⟨some 8, .bin .lss .num (.tmp 5) (.tmp 7), none⟩]) (
        .cond (.tmp 8) (
          .skip) (
          .exit 0))) (
       .seq (
        .block 1 (
          .ops [⟨some 11, .val (.tmp 3), none⟩,
            ⟨some 12, .val (.tmp 0), none⟩,
            ⟨some 13, .val (.tmp 4), none⟩,
            ⟨some 14, .indexAddr 5 (.tmp 12) (.tmp 13), none⟩,
            ⟨some 15, .load true 5 (.tmp 14), none⟩,
            ⟨some 16, .call (.val (.fn (.func 78) [] [])) [(.tmp 15)], none⟩,
            ⟨some 17, .mm2 true (.tmp 11) (.tmp 16), none⟩,
            ⟨some 3, .val (.tmp 17), none⟩])) (
       .ops [⟨some 9, .val (.tmp 4), none⟩,
         ⟨some 10, .bin .add .num (.tmp 9) (.val (.lit (.int .i64 1))), none⟩,
         ⟨some 4, .val (.tmp 10), none⟩]))

def a_bobbinref02_deepest : ACode :=
  .seq (
   .ops [⟨some 2, .val (.val (.lit (.int .i64 0))), none⟩]) (
  .seq (
   .ops [⟨some 3, .val (.val (.lit (.int .i64 0))), none⟩]) (
  .seq (
   .seq (
    .ops [⟨some 4, .val (.val (.lit (.int .i64 0))), none⟩]) (
   .block 0 (
     .loop a_bobbinref02_deepestb1))) (
  .seq (
   .ops [⟨some 18, .val (.tmp 3), none⟩,
     ⟨some 2, .val (.tmp 18), none⟩]) (
  .ret))))

theorem c_bobbinref02_deepest : codeOf Tryd.prog {  } 60 = some (a_bobbinref02_deepest, [.tmp 2], 19) := by kernel_rfl

/-- bobbin/bobbinref02.deep -/
def a_bobbinref02_deepb1 : ACode :=
       .seq (
        .seq (
         .ops [⟨some 5, .val (.tmp 4), none⟩,
           ⟨some 6, .val (.tmp 0), none⟩,
           ⟨some 7, .len 1 (.tmp 6), none⟩,
           ⟨some 8, .bin .lss .num (.tmp 5) (.tmp 7), none⟩]) (
        .cond (.tmp 8) (
          .skip) (
          .exit 0))) (
       .seq (
        .block 1 (
          .ops [⟨some 11, .val (.tmp 3), none⟩,
            ⟨some 12, .val (.tmp 0), none⟩,
            ⟨some 13, .val (.tmp 4), none⟩,
            ⟨some 14, .indexAddr 8 (.tmp 12) (.tmp 13), none⟩,
            ⟨some 15, .fieldAddr 4 (.tmp 14), none⟩,
            ⟨some 16, .iload false 1 (.tmp 15), none⟩,
            ⟨some 18, .val (.tmp 0), none⟩,
            ⟨some 19, .val (.tmp 4), none⟩,
            ⟨some 20, .indexAddr 8 (.tmp 18) (.tmp 19), none⟩,
            ⟨some 21, .fieldAddr 5 (.tmp 20), none⟩,
            ⟨some 22, .iload false 1 (.tmp 21), none⟩,
            ⟨some 24, .val (.tmp 0), none⟩,
            ⟨some 25, .val (.tmp 4), none⟩,
            ⟨some 26, .indexAddr 8 (.tmp 24) (.tmp 25), none⟩,
            ⟨some 27, .fieldAddr 6 (.tmp 26), none⟩,
            ⟨some 28, .iload false 1 (.tmp 27), none⟩,
            ⟨some 17, .call (.val (.fn (.func 60) [] [])) [(.tmp 16)], none⟩,
            ⟨some 23, .call (.val (.fn (.func 33) [] [])) [(.tmp 22)], none⟩,
            ⟨some 29, .call (.val (.fn (.func 33) [] [])) [(.tmp 28)], none⟩,
            ⟨some 30, .mm3 true (.tmp 17) (.tmp 23) (.tmp 29), none⟩,
            ⟨some 31, .bin .add .num (.val (.lit (.int .i64 1))) (.tmp 30), none⟩,
            ⟨some 32, .mm2 true (.tmp 11) (.tmp 31), none⟩,
            ⟨some 3, .val (.tmp 32), none⟩])) (
       .ops [⟨some 9, .val (.tmp 4), none⟩,
         ⟨some 10, .bin .add .num (.tmp 9) (.val (.lit (.int .i64 1))), none⟩,
         ⟨some 4, .val (.tmp 10), none⟩]))

def a_bobbinref02_deep : ACode :=
  .seq (
   .ops [⟨some 2, .val (.val (.lit (.int .i64 0))), none⟩]) (
  .seq (
   .ops [⟨some 3, .val (.val (.lit (.int .i64 0))), none⟩]) (
  .seq (
   .seq (
    .ops [⟨some 4, .val (.val (.lit (.int .i64 0))), none⟩]) (
   .block 0 (
     .loop a_bobbinref02_deepb1))) (
  .seq (
   .ops [⟨some 33, .val (.tmp 3), none⟩,
     ⟨some 2, .val (.tmp 33), none⟩]) (
  .ret))))

theorem c_bobbinref02_deep : codeOf Tryd.prog { il := [16, 22, 28] } 33 = some (a_bobbinref02_deep, [.tmp 2], 34) := by kernel_rfl

/-- bobbin/bobbinref02.Depth -/
def a_bobbinref02_Depthb1 : ACode :=
       .seq (
        .seq (
         .ops [⟨some 5, .val (.tmp 4), none⟩,
           ⟨some 6, .val (.tmp 0), none⟩,
           ⟨some 7, .len 1 (.tmp 6), none⟩,
           ⟨some 8, .bin .lss .num (.tmp 5) (.tmp 7), none⟩]) (
        .cond (.tmp 8) (
          .skip) (
          .exit 0))) (
       .seq (
        .block 1 (
          .ops [⟨some 11, .val (.tmp 3), none⟩,
            ⟨some 12, .val (.tmp 0), none⟩,
            ⟨some 13, .val (.tmp 4), none⟩,
            ⟨some 14, .indexAddr 6 (.tmp 12) (.tmp 13), none⟩,
            ⟨some 15, .fieldAddr 4 (.tmp 14), none⟩,
            ⟨some 16, .load false 1 (.tmp 15), none⟩,
            ⟨some 17, .call (.val (.fn (.func 33) [] [])) [(.tmp 16)], none⟩,
            ⟨some 18, .mm2 true (.tmp 11) (.tmp 17), none⟩,
            ⟨some 3, .val (.tmp 18), none⟩])) (
       .ops [⟨some 9, .val (.tmp 4), none⟩,
         ⟨some 10, .bin .add .num (.tmp 9) (.val (.lit (.int .i64 1))), none⟩,
         ⟨some 4, .val (.tmp 10), none⟩]))

def a_bobbinref02_Depth : ACode :=
  .seq (
   .ops [⟨some 2, .val (.val (.lit (.int .i64 0))), none⟩]) (
  .seq (
   .ops [⟨some 3, .val (.val (.lit (.int .i64 0))), none⟩]) (
  .seq (
   .seq (
    .ops [⟨some 4, .val (.val (.lit (.int .i64 0))), none⟩]) (
   .block 0 (
     .loop a_bobbinref02_Depthb1))) (
  .seq (
   .ops [⟨some 19, .val (.tmp 3), none⟩,
     ⟨some 2, .val (.tmp 19), none⟩]) (
  .ret))))

theorem c_bobbinref02_Depth : codeOf Tryd.prog {  } 14 = some (a_bobbinref02_Depth, [.tmp 2], 20) := by kernel_rfl

/-- bobbin/bobbinref02.ExprSize -/
def a_bobbinref02_ExprSizeb1 : ACode :=
       .seq (
        .seq (
         .ops [⟨some 7, .val (.tmp 4), none⟩,
           ⟨some 8, .val (.tmp 0), none⟩,
           ⟨some 9, .len 1 (.tmp 8), none⟩,
           ⟨some 10, .bin .lss .num (.tmp 7) (.tmp 9), none⟩]) (
        .cond (.tmp 10) (
          .skip) (
          .exit 0))) (
       .seq (
        .block 1 (
          .ops [⟨some 13, .val (.tmp 3), none⟩,
            ⟨some 14, .val (.tmp 0), none⟩,
            ⟨some 15, .val (.tmp 4), none⟩,
            ⟨some 16, .indexAddr 5 (.tmp 14) (.tmp 15), none⟩,
            ⟨some 17, .fieldAddr 3 (.tmp 16), none⟩,
            ⟨some 18, .load false 1 (.tmp 17), none⟩,
            ⟨some 19, .call (.val (.fn (.func 61) [] [])) [(.tmp 18)], none⟩,
            ⟨some 20, .bin .add .num (.tmp 13) (.tmp 19), none⟩,
            ⟨some 3, .val (.tmp 20), none⟩])) (
       .ops [⟨some 11, .val (.tmp 4), none⟩,
         ⟨some 12, .bin .add .num (.tmp 11) (.val (.lit (.int .i64 1))), none⟩,
         ⟨some 4, .val (.tmp 12), none⟩]))

def a_bobbinref02_ExprSize : ACode :=
  .seq (
   .ops [⟨some 2, .val (.val (.lit (.int .i64 0))), none⟩]) (
  .seq (
   .ops [⟨some 5, .val (.tmp 0), none⟩,
     ⟨some 6, .len 1 (.tmp 5), none⟩,
     ⟨some 3, .val (.tmp 6), none⟩]) (
  .seq (
   .seq (
    .ops [⟨some 4, .val (.val (.lit (.int .i64 0))), none⟩]) (
   .block 0 (
     .loop a_bobbinref02_ExprSizeb1))) (
  .seq (
   .ops [⟨some 21, .val (.tmp 3), none⟩,
     ⟨some 2, .val (.tmp 21), none⟩]) (
  .ret))))

theorem c_bobbinref02_ExprSize : codeOf Tryd.prog {  } 61 = some (a_bobbinref02_ExprSize, [.tmp 2], 22) := by kernel_rfl

/-- bobbin/bobbinref02.StmtSize -/
def a_bobbinref02_StmtSizeb1 : ACode :=
       .seq (
        .seq (
         .ops [⟨some 7, .val (.tmp 4), none⟩,
           ⟨some 8, .val (.tmp 0), none⟩,
           ⟨some 9, .len 1 (.tmp 8), none⟩,
           ⟨some 10, .bin .lss .num (.tmp 7) (.tmp 9), none⟩]) (
        .cond (.tmp 10) (
          .skip) (
          .exit 0))) (
       .seq (
        .block 1 (
          .ops [⟨some 13, .val (.tmp 3), none⟩,
            ⟨some 14, .val (.tmp 0), none⟩,
            ⟨some 15, .val (.tmp 4), none⟩,
            ⟨some 16, .indexAddr 8 (.tmp 14) (.tmp 15), none⟩,
            ⟨some 17, .fieldAddr 4 (.tmp 16), none⟩,
            ⟨some 18, .iload false 1 (.tmp 17), none⟩,
            ⟨some 21, .val (.tmp 0), none⟩,
            ⟨some 22, .val (.tmp 4), none⟩,
            ⟨some 23, .indexAddr 8 (.tmp 21) (.tmp 22), none⟩,
            ⟨some 24, .fieldAddr 5 (.tmp 23), none⟩,
            ⟨some 25, .iload false 1 (.tmp 24), none⟩,
            ⟨some 28, .val (.tmp 0), none⟩,
            ⟨some 29, .val (.tmp 4), none⟩,
            ⟨some 30, .indexAddr 8 (.tmp 28) (.tmp 29), none⟩,
            ⟨some 31, .fieldAddr 6 (.tmp 30), none⟩,
            ⟨some 32, .iload false 1 (.tmp 31), none⟩,
            ⟨some 19, .call (.val (.fn (.func 61) [] [])) [(.tmp 18)], none⟩,
            ⟨some 20, .bin .add .num (.tmp 13) (.tmp 19), none⟩,
            ⟨some 26, .call (.val (.fn (.func 34) [] [])) [(.tmp 25)], none⟩,
            ⟨some 27, .bin .add .num (.tmp 20) (.tmp 26), none⟩,
            ⟨some 33, .call (.val (.fn (.func 34) [] [])) [(.tmp 32)], none⟩,
            ⟨some 34, .bin .add .num (.tmp 27) (.tmp 33), none⟩,
            ⟨some 3, .val (.tmp 34), none⟩])) (
       .ops [⟨some 11, .val (.tmp 4), none⟩,
         ⟨some 12, .bin .add .num (.tmp 11) (.val (.lit (.int .i64 1))), none⟩,
         ⟨some 4, .val (.tmp 12), none⟩]))

def a_bobbinref02_StmtSize : ACode :=
  .seq (
   .ops [⟨some 2, .val (.val (.lit (.int .i64 0))), none⟩]) (
  .seq (
   .ops [⟨some 5, .val (.tmp 0), none⟩,
     ⟨some 6, .len 1 (.tmp 5), none⟩,
     ⟨some 3, .val (.tmp 6), none⟩]) (
  .seq (
   .seq (
    .ops [⟨some 4, .val (.val (.lit (.int .i64 0))), none⟩]) (
   .block 0 (
     .loop a_bobbinref02_StmtSizeb1))) (
  .seq (
   .ops [⟨some 35, .val (.tmp 3), none⟩,
     ⟨some 2, .val (.tmp 35), none⟩]) (
  .ret))))

theorem c_bobbinref02_StmtSize : codeOf Tryd.prog { il := [18, 25, 32] } 34 = some (a_bobbinref02_StmtSize, [.tmp 2], 36) := by kernel_rfl

/-- bobbin/bobbinref02.Size -/
def a_bobbinref02_Sizeb1 : ACode :=
       .seq (
        .seq (
         .ops [⟨some 7, .val (.tmp 4), none⟩,
           ⟨some 8, .val (.tmp 0), none⟩,
           ⟨some 9, .len 1 (.tmp 8), none⟩,
           ⟨some 10, .bin .lss .num (.tmp 7) (.tmp 9), none⟩]) (
        .cond (.tmp 10) (
          .skip) (
          .exit 0))) (
       .seq (
        .block 1 (
          .ops [⟨some 13, .val (.tmp 3), none⟩,
            ⟨some 14, .val (.tmp 0), none⟩,
            ⟨some 15, .val (.tmp 4), none⟩,
            ⟨some 16, .indexAddr 6 (.tmp 14) (.tmp 15), none⟩,
            ⟨some 17, .fieldAddr 4 (.tmp 16), none⟩,
            ⟨some 18, .load false 1 (.tmp 17), none⟩,
            ⟨some 19, .call (.val (.fn (.func 34) [] [])) [(.tmp 18)], none⟩,
            ⟨some 20, .bin .add .num (.tmp 13) (.tmp 19), none⟩,
            ⟨some 3, .val (.tmp 20), none⟩])) (
       .ops [⟨some 11, .val (.tmp 4), none⟩,
         ⟨some 12, .bin .add .num (.tmp 11) (.val (.lit (.int .i64 1))), none⟩,
         ⟨some 4, .val (.tmp 12), none⟩]))

def a_bobbinref02_Size : ACode :=
  .seq (
   .ops [⟨some 2, .val (.val (.lit (.int .i64 0))), none⟩]) (
  .seq (
   .ops [⟨some 5, .val (.tmp 0), none⟩,
     ⟨some 6, .len 1 (.tmp 5), none⟩,
     ⟨some 3, .val (.tmp 6), none⟩]) (
  .seq (
   .seq (
    .ops [⟨some 4, .val (.val (.lit (.int .i64 0))), none⟩]) (
   .block 0 (
     .loop a_bobbinref02_Sizeb1))) (
  .seq (
   .ops [⟨some 21, .val (.tmp 3), none⟩,
     ⟨some 2, .val (.tmp 21), none⟩]) (
  .ret))))

theorem c_bobbinref02_Size : codeOf Tryd.prog {  } 16 = some (a_bobbinref02_Size, [.tmp 2], 22) := by kernel_rfl

/-- bobbin/bobbinref02.SameExpr -/
def a_bobbinref02_SameExpr : ACode :=
  .seq (
   .ops [⟨some 2, .box true (.tmp 0), none⟩,
     ⟨some 3, .box true (.tmp 1), none⟩,
     ⟨some 4, .val (.val (.lit (.bool false))), none⟩]) (
  .seq (
   .ops [⟨some 5, .fieldAddr 0 (.tmp 2), none⟩,
     ⟨some 6, .iload false 1 (.tmp 5), none⟩,
     ⟨some 7, .fieldAddr 0 (.tmp 3), none⟩,
     ⟨some 8, .iload false 1 (.tmp 7), none⟩,
     ⟨some 9, .bin .eql .num (.tmp 6) (.tmp 8), none⟩,
     ⟨some 10, .val (.tmp 9), none⟩,
     ⟨some 11, .fieldAddr 1 (.tmp 2), some (10, true)⟩,
     ⟨some 12, .iload false 1 (.tmp 11), some (10, true)⟩,
     ⟨some 13, .fieldAddr 1 (.tmp 3), some (10, true)⟩,
     ⟨some 14, .iload false 1 (.tmp 13), some (10, true)⟩,
     ⟨some 15, .bin .eql .num (.tmp 12) (.tmp 14), some (10, true)⟩,
     ⟨some 16, .pick (.tmp 10) (.tmp 15) (.val (.lit (.bool false))), none⟩,
     ⟨some 17, .val (.tmp 16), none⟩,
     ⟨some 18, .fieldAddr 2 (.tmp 2), some (17, true)⟩,
     ⟨some 19, .iload false 1 (.tmp 18), some (17, true)⟩,
     ⟨some 20, .fieldAddr 2 (.tmp 3), some (17, true)⟩,
     ⟨some 21, .iload false 1 (.tmp 20), some (17, true)⟩,
     ⟨some 22, .bin .eql .num (.tmp 19) (.tmp 21), some (17, true)⟩,
     ⟨some 23, .pick (.tmp 17) (.tmp 22) (.val (.lit (.bool false))), none⟩,
     ⟨some 24, .val (.tmp 23), none⟩,
     ⟨some 25, .fieldAddr 3 (.tmp 2), some (24, true)⟩,
     ⟨some 26, .iload false 1 (.tmp 25), some (24, true)⟩,
     ⟨some 27, .fieldAddr 3 (.tmp 3), some (24, true)⟩,
     ⟨some 28, .iload false 1 (.tmp 27), some (24, true)⟩,
     ⟨some 29, .call (.val (.fn (.func 45) [] [])) [(.tmp 26), (.tmp 28)], some (24, true)⟩,
     ⟨some 30, .pick (.tmp 24) (.tmp 29) (.val (.lit (.bool false))), none⟩,
     ⟨some 4, .val (.tmp 30), none⟩]) (
  .ret))

theorem c_bobbinref02_SameExpr : codeOf Tryd.prog { bz := [2, 3], il := [6, 8, 12, 14, 19, 21, 26, 28] } 22 = some (a_bobbinref02_SameExpr, [.tmp 4], 31) := by kernel_rfl

/-- bobbin/bobbinref02.sameExprs -/
def a_bobbinref02_sameExprsb1 : ACode :=
       .seq (
        .seq (
         .ops [⟨some 11, .val (.tmp 5), none⟩,
           ⟨some 12, .val (.tmp 0), none⟩,
           ⟨some 13, .len 1 (.tmp 12), none⟩,
           ⟨some 14, .bin .lss .num (.tmp 11) (.tmp 13), none⟩]) (
        .cond (.tmp 14) (
          .skip) (
          .exit 0))) (
       .seq (
        .block 1 (
          .seq (
           .ops [⟨some 17, .val (.tmp 0), none⟩,
             ⟨some 18, .val (.tmp 5), none⟩,
             ⟨some 19, .indexAddr 5 (.tmp 17) (.tmp 18), none⟩,
             ⟨some 21, .val (.tmp 1), none⟩,
             ⟨some 22, .val (.tmp 5), none⟩,
             ⟨some 23, .indexAddr 5 (.tmp 21) (.tmp 22), none⟩,
             ⟨some 20, .load true 5 (.tmp 19), none⟩,
             ⟨some 24, .load true 5 (.tmp 23), none⟩,
             ⟨some 25, .call (.val (.fn (.func 22) [] [])) [(.tmp 20), (.tmp 24)], none⟩,
             ⟨some 26, .un .not (.tmp 25), none⟩]) (
          .cond (.tmp 26) (
            .seq (
             .ops [⟨some 4, .val (.val (.lit (.bool false))), none⟩]) (
            .ret)) (
            .skip)))) (
       .ops [⟨some 15, .val (.tmp 5), none⟩,
         ⟨some 16, .bin .add .num (.tmp 15) (.val (.lit (.int .i64 1))), none⟩,
         ⟨some 5, .val (.tmp 16), none⟩]))

def a_bobbinref02_sameExprs : ACode :=
  .seq (
   .ops [⟨some 4, .val (.val (.lit (.bool false))), none⟩]) (
  .seq (
   .seq (
    .ops [⟨some 6, .val (.tmp 0), none⟩,
      ⟨some 7, .len 1 (.tmp 6), none⟩,
      ⟨some 8, .val (.tmp 1), none⟩,
      ⟨some 9, .len 1 (.tmp 8), none⟩,
      ⟨some 10, .bin .neq .num (.tmp 7) (.tmp 9), none⟩]) (
   .cond (.tmp 10) (
     .seq (
      .ops [⟨some 4, .val (.val (.lit (.bool false))), none⟩]) (
     .ret)) (
     .skip))) (
  .seq (
   .seq (
    .ops [⟨some 5, .val (.val (.lit (.int .i64 0))), none⟩]) (
   .block 0 (
     .loop a_bobbinref02_sameExprsb1))) (
  .seq (
   .ops [⟨some 4, .val (.val (.lit (.bool true))), none⟩]) (
  .ret))))

theorem c_bobbinref02_sameExprs : codeOf Tryd.prog {  } 45 = some (a_bobbinref02_sameExprs, [.tmp 4], 27) := by kernel_rfl

/-- bobbin/bobbinref02.sameStmts -/
def a_bobbinref02_sameStmtsb1 : ACode :=
       .seq (
        .seq (
         .ops [⟨some 11, .val (.tmp 5), none⟩,
           ⟨some 12, .val (.tmp 0), none⟩,
           ⟨some 13, .len 1 (.tmp 12), none⟩,
           ⟨some 14, .bin .lss .num (.tmp 11) (.tmp 13), none⟩]) (
        .cond (.tmp 14) (
          .skip) (
          .exit 0))) (
       .seq (
        .block 1 (
          .seq (
           .ops [⟨some 17, .val (.tmp 0), none⟩,
             ⟨some 18, .val (.tmp 5), none⟩,
             ⟨some 19, .indexAddr 8 (.tmp 17) (.tmp 18), none⟩,
             ⟨some 20, .fieldAddr 0 (.tmp 19), none⟩,
             ⟨some 21, .iload false 1 (.tmp 20), none⟩,
             ⟨some 22, .val (.tmp 1), none⟩,
             ⟨some 23, .val (.tmp 5), none⟩,
             ⟨some 24, .indexAddr 8 (.tmp 22) (.tmp 23), none⟩,
             ⟨some 25, .fieldAddr 0 (.tmp 24), none⟩,
             ⟨some 26, .iload false 1 (.tmp 25), none⟩,
             ⟨some 27, .bin .neq .num (.tmp 21) (.tmp 26), none⟩,
             ⟨some 28, .val (.tmp 27), none⟩,
             ⟨some 29, .val (.tmp 0), some (28, false)⟩,
             ⟨some 30, .val (.tmp 5), some (28, false)⟩,
             ⟨some 31, .indexAddr 8 (.tmp 29) (.tmp 30), some (28, false)⟩,
             ⟨some 32, .fieldAddr 1 (.tmp 31), some (28, false)⟩,
             ⟨some 33, .iload false 1 (.tmp 32), some (28, false)⟩,
             ⟨some 34, .val (.tmp 1), some (28, false)⟩,
             ⟨some 35, .val (.tmp 5), some (28, false)⟩,
             ⟨some 36, .indexAddr 8 (.tmp 34) (.tmp 35), some (28, false)⟩,
             ⟨some 37, .fieldAddr 1 (.tmp 36), some (28, false)⟩,
             ⟨some 38, .iload false 1 (.tmp 37), some (28, false)⟩,
             ⟨some 39, .bin .neq .num (.tmp 33) (.tmp 38), some (28, false)⟩,
             ⟨some 40, .pick (.tmp 28) (.val (.lit (.bool true))) (.tmp 39), none⟩,
             ⟨some 41, .val (.tmp 40), none⟩,
             ⟨some 42, .val (.tmp 0), some (41, false)⟩,
             ⟨some 43, .val (.tmp 5), some (41, false)⟩,
             ⟨some 44, .indexAddr 8 (.tmp 42) (.tmp 43), some (41, false)⟩,
             ⟨some 45, .fieldAddr 2 (.tmp 44), some (41, false)⟩,
             ⟨some 46, .iload false 1 (.tmp 45), some (41, false)⟩,
             ⟨some 47, .val (.tmp 1), some (41, false)⟩,
             ⟨some 48, .val (.tmp 5), some (41, false)⟩,
             ⟨some 49, .indexAddr 8 (.tmp 47) (.tmp 48), some (41, false)⟩,
             ⟨some 50, .fieldAddr 2 (.tmp 49), some (41, false)⟩,
             ⟨some 51, .iload false 1 (.tmp 50), some (41, false)⟩,
             ⟨some 52, .bin .neq .num (.tmp 46) (.tmp 51), some (41, false)⟩,
             ⟨some 53, .pick (.tmp 41) (.val (.lit (.bool true))) (.tmp 52), none⟩,
             ⟨some 54, .val (.tmp 53), none⟩,
             ⟨some 55, .val (.tmp 0), some (54, false)⟩,
             ⟨some 56, .val (.tmp 5), some (54, false)⟩,
             ⟨some 57, .indexAddr 8 (.tmp 55) (.tmp 56), some (54, false)⟩,
             ⟨some 58, .fieldAddr 3 (.tmp 57), some (54, false)⟩,
             ⟨some 59, .iload false 1 (.tmp 58), some (54, false)⟩,
             ⟨some 60, .val (.tmp 1), some (54, false)⟩,
             ⟨some 61, .val (.tmp 5), some (54, false)⟩,
             ⟨some 62, .indexAddr 8 (.tmp 60) (.tmp 61), some (54, false)⟩,
             ⟨some 63, .fieldAddr 3 (.tmp 62), some (54, false)⟩,
             ⟨some 64, .iload false 1 (.tmp 63), some (54, false)⟩,
             ⟨some 65, .bin .neq .bool (.tmp 59) (.tmp 64), some (54, false)⟩,
             ⟨some 66, .pick (.tmp 54) (.val (.lit (.bool true))) (.tmp 65), none⟩,
             ⟨some 67, .val (.tmp 66), none⟩,
             ⟨some 68, .val (.tmp 0), some (67, false)⟩,
             ⟨some 69, .val (.tmp 5), some (67, false)⟩,
             ⟨some 70, .indexAddr 8 (.tmp 68) (.tmp 69), some (67, false)⟩,
             ⟨some 71, .fieldAddr 4 (.tmp 70), some (67, false)⟩,
             ⟨some 72, .iload false 1 (.tmp 71), some (67, false)⟩,
             ⟨some 73, .val (.tmp 1), some (67, false)⟩,
             ⟨some 74, .val (.tmp 5), some (67, false)⟩,
             ⟨some 75, .indexAddr 8 (.tmp 73) (.tmp 74), some (67, false)⟩,
             ⟨some 76, .fieldAddr 4 (.tmp 75), some (67, false)⟩,
             ⟨some 77, .iload false 1 (.tmp 76), some (67, false)⟩,
             ⟨some 78, .pcall (.val (.fn (.func 45) [] [])) [(.tmp 72), (.tmp 77)], some (67, false)⟩,
             ⟨some 79, .un .not (.tmp 78), some (67, false)⟩,
             ⟨some 80, .pick (.tmp 67) (.val (.lit (.bool true))) (.tmp 79), none⟩,
             ⟨some 81, .val (.tmp 80), none⟩,
             ⟨some 82, .val (.tmp 0), some (81, false)⟩,
             ⟨some 83, .val (.tmp 5), some (81, false)⟩,
             ⟨some 84, .indexAddr 8 (.tmp 82) (.tmp 83), some (81, false)⟩,
             ⟨some 85, .fieldAddr 5 (.tmp 84), some (81, false)⟩,
             ⟨some 86, .iload false 1 (.tmp 85), some (81, false)⟩,
             ⟨some 87, .val (.tmp 1), some (81, false)⟩,
             ⟨some 88, .val (.tmp 5), some (81, false)⟩,
             ⟨some 89, .indexAddr 8 (.tmp 87) (.tmp 88), some (81, false)⟩,
             ⟨some 90, .fieldAddr 5 (.tmp 89), some (81, false)⟩,
             ⟨some 91, .iload false 1 (.tmp 90), some (81, false)⟩,
             ⟨some 92, .pcall (.val (.fn (.func 40) [] [])) [(.tmp 86), (.tmp 91)], some (81, false)⟩,
             ⟨some 93, .un .not (.tmp 92), some (81, false)⟩,
             ⟨some 94, .pick (.tmp 81) (.val (.lit (.bool true))) (.tmp 93), none⟩,
             ⟨some 95, .val (.tmp 94), none⟩,
             ⟨some 96, .val (.tmp 0), some (95, false)⟩,
             ⟨some 97, .val (.tmp 5), some (95, false)⟩,
             ⟨some 98, .indexAddr 8 (.tmp 96) (.tmp 97), some (95, false)⟩,
             ⟨some 99, .fieldAddr 6 (.tmp 98), some (95, false)⟩,
             ⟨some 100, .iload false 1 (.tmp 99), some (95, false)⟩,
             ⟨some 101, .val (.tmp 1), some (95, false)⟩,
             ⟨some 102, .val (.tmp 5), some (95, false)⟩,
             ⟨some 103, .indexAddr 8 (.tmp 101) (.tmp 102), some (95, false)⟩,
             ⟨some 104, .fieldAddr 6 (.tmp 103), some (95, false)⟩,
             ⟨some 105, .iload false 1 (.tmp 104), some (95, false)⟩,
             ⟨some 106, .pcall (.val (.fn (.func 40) [] [])) [(.tmp 100), (.tmp 105)], some (95, false)⟩,
             ⟨some 107, .un .not (.tmp 106), some (95, false)⟩,
             ⟨some 108, .pick (.tmp 95) (.val (.lit (.bool true))) (.tmp 107), none⟩]) (
          .cond (.tmp 108) (
            .seq (
             .ops [⟨some 4, .val (.val (.lit (.bool false))), none⟩]) (
            .ret)) (
            .skip)))) (
       .ops [⟨some 15, .val (.tmp 5), none⟩,
         ⟨some 16, .bin .add .num (.tmp 15) (.val (.lit (.int .i64 1))), none⟩,
         ⟨some 5, .val (.tmp 16), none⟩]))

def a_bobbinref02_sameStmts : ACode :=
  .seq (
   .ops [⟨some 4, .val (.val (.lit (.bool false))), none⟩]) (
  .seq (
   .seq (
    .ops [⟨some 6, .val (.tmp 0), none⟩,
      ⟨some 7, .len 1 (.tmp 6), none⟩,
      ⟨some 8, .val (.tmp 1), none⟩,
      ⟨some 9, .len 1 (.tmp 8), none⟩,
      ⟨some 10, .bin .neq .num (.tmp 7) (.tmp 9), none⟩]) (
   .cond (.tmp 10) (
     .seq (
      .ops [⟨some 4, .val (.val (.lit (.bool false))), none⟩]) (
     .ret)) (
     .skip))) (
  .seq (
   .seq (
    .ops [⟨some 5, .val (.val (.lit (.int .i64 0))), none⟩]) (
   .block 0 (
     .loop a_bobbinref02_sameStmtsb1))) (
  .seq (
   .ops [⟨some 4, .val (.val (.lit (.bool true))), none⟩]) (
  .ret))))

theorem c_bobbinref02_sameStmts : codeOf Tryd.prog { pc := [78, 92, 106], il := [21, 26, 33, 38, 46, 51, 59, 64, 72, 77, 86, 91, 100, 105] } 40 = some (a_bobbinref02_sameStmts, [.tmp 4], 109) := by kernel_rfl

/-- bobbin/bobbinref02.Same -/
def a_bobbinref02_Sameb1 : ACode :=
              .seq (
               .seq (
                .ops [⟨some 84, .val (.tmp 6), none⟩,
                  ⟨some 85, .val (.tmp 0), none⟩,
                  ⟨some 86, .val (.tmp 5), none⟩,
                  ⟨some 87, .indexAddr 6 (.tmp 85) (.tmp 86), none⟩,
                  ⟨some 88, .fieldAddr 3 (.tmp 87), none⟩,
                  ⟨some 89, .iload false 1 (.tmp 88), none⟩,
                  ⟨some 90, .len 1 (.tmp 89), none⟩,
                  ⟨some 91, .bin .lss .num (.tmp 84) (.tmp 90), none⟩]) (
               .cond (.tmp 91) (
                 .skip) (
                 .exit 2))) (
              .seq (
               .block 3 (
                 .seq (
                  .ops [⟨some 94, .val (.tmp 0), none⟩,
                    ⟨some 95, .val (.tmp 5), none⟩,
                    ⟨some 96, .indexAddr 6 (.tmp 94) (.tmp 95), none⟩,
                    ⟨some 97, .fieldAddr 3 (.tmp 96), none⟩,
                    ⟨some 98, .iload false 1 (.tmp 97), none⟩,
                    ⟨some 99, .val (.tmp 6), none⟩,
                    ⟨some 100, .indexAddr 1 (.tmp 98) (.tmp 99), none⟩,
                    ⟨some 101, .iload false 1 (.tmp 100), none⟩,
                    ⟨some 102, .val (.tmp 1), none⟩,
                    ⟨some 103, .val (.tmp 5), none⟩,
                    ⟨some 104, .indexAddr 6 (.tmp 102) (.tmp 103), none⟩,
                    ⟨some 105, .fieldAddr 3 (.tmp 104), none⟩,
                    ⟨some 106, .iload false 1 (.tmp 105), none⟩,
                    ⟨some 107, .val (.tmp 6), none⟩,
                    ⟨some 108, .indexAddr 1 (.tmp 106) (.tmp 107), none⟩,
                    ⟨some 109, .iload false 1 (.tmp 108), none⟩,
                    ⟨some 110, .bin .neq .num (.tmp 101) (.tmp 109), none⟩]) (
                 .cond (.tmp 110) (
                   .seq (
                    .ops [⟨some 4, .val (.val (.lit (.bool false))), none⟩]) (
                   .ret)) (
                   .skip)))) (
              .ops [⟨some 92, .val (.tmp 6), none⟩,
                ⟨some 93, .bin .add .num (.tmp 92) (.val (.lit (.int .i64 1))), none⟩,
                ⟨some 6, .val (.tmp 93), none⟩]))

def a_bobbinref02_Sameb2 : ACode :=
       .seq (
        .seq (
         .ops [⟨some 12, .val (.tmp 5), none⟩,
           ⟨some 13, .val (.tmp 0), none⟩,
           ⟨some 14, .len 1 (.tmp 13), none⟩,
           ⟨some 15, .bin .lss .num (.tmp 12) (.tmp 14), none⟩]) (
        .cond (.tmp 15) (
          .skip) (
          .exit 0))) (
       .seq (
        .block 1 (
          .seq (
           .seq (
            .ops [⟨some 18, .val (.tmp 0), none⟩,
              ⟨some 19, .val (.tmp 5), none⟩,
              ⟨some 20, .indexAddr 6 (.tmp 18) (.tmp 19), none⟩,
              ⟨some 21, .fieldAddr 0 (.tmp 20), none⟩,
              ⟨some 22, .iload false 1 (.tmp 21), none⟩,
              ⟨some 23, .val (.tmp 1), none⟩,
              ⟨some 24, .val (.tmp 5), none⟩,
              ⟨some 25, .indexAddr 6 (.tmp 23) (.tmp 24), none⟩,
              ⟨some 26, .fieldAddr 0 (.tmp 25), none⟩,
              ⟨some 27, .iload false 1 (.tmp 26), none⟩,
              ⟨some 28, .bin .neq .num (.tmp 22) (.tmp 27), none⟩,
              ⟨some 29, .val (.tmp 28), none⟩,
              ⟨some 30, .val (.tmp 0), some (29, false)⟩,
              ⟨some 31, .val (.tmp 5), some (29, false)⟩,
              ⟨some 32, .indexAddr 6 (.tmp 30) (.tmp 31), some (29, false)⟩,
              ⟨some 33, .fieldAddr 1 (.tmp 32), some (29, false)⟩,
              ⟨some 34, .iload false 1 (.tmp 33), some (29, false)⟩,
              ⟨some 35, .val (.tmp 1), some (29, false)⟩,
              ⟨some 36, .val (.tmp 5), some (29, false)⟩,
              ⟨some 37, .indexAddr 6 (.tmp 35) (.tmp 36), some (29, false)⟩,
              ⟨some 38, .fieldAddr 1 (.tmp 37), some (29, false)⟩,
              ⟨some 39, .iload false 1 (.tmp 38), some (29, false)⟩,
              ⟨some 40, .bin .neq .num (.tmp 34) (.tmp 39), some (29, false)⟩,
              ⟨some 41, .pick (.tmp 29) (.val (.lit (.bool true))) (.tmp 40), none⟩,
              ⟨some 42, .val (.tmp 41), none⟩,
              ⟨some 43, .val (.tmp 0), some (42, false)⟩,
              ⟨some 44, .val (.tmp 5), some (42, false)⟩,
              ⟨some 45, .indexAddr 6 (.tmp 43) (.tmp 44), some (42, false)⟩,
              ⟨some 46, .fieldAddr 2 (.tmp 45), some (42, false)⟩,
              ⟨some 47, .iload false 1 (.tmp 46), some (42, false)⟩,
              ⟨some 48, .val (.tmp 1), some (42, false)⟩,
              ⟨some 49, .val (.tmp 5), some (42, false)⟩,
              ⟨some 50, .indexAddr 6 (.tmp 48) (.tmp 49), some (42, false)⟩,
              ⟨some 51, .fieldAddr 2 (.tmp 50), some (42, false)⟩,
              ⟨some 52, .iload false 1 (.tmp 51), some (42, false)⟩,
              ⟨some 53, .bin .neq .num (.tmp 47) (.tmp 52), some (42, false)⟩,
              ⟨some 54, .pick (.tmp 42) (.val (.lit (.bool true))) (.tmp 53), none⟩,
              ⟨some 55, .val (.tmp 54), none⟩,
              ⟨some 56, .val (.tmp 0), some (55, false)⟩,
              ⟨some 57, .val (.tmp 5), some (55, false)⟩,
              ⟨some 58, .indexAddr 6 (.tmp 56) (.tmp 57), some (55, false)⟩,
              ⟨some 59, .fieldAddr 3 (.tmp 58), some (55, false)⟩,
              ⟨some 60, .iload false 1 (.tmp 59), some (55, false)⟩,
              ⟨some 61, .len 1 (.tmp 60), some (55, false)⟩,
              ⟨some 62, .val (.tmp 1), some (55, false)⟩,
              ⟨some 63, .val (.tmp 5), some (55, false)⟩,
              ⟨some 64, .indexAddr 6 (.tmp 62) (.tmp 63), some (55, false)⟩,
              ⟨some 65, .fieldAddr 3 (.tmp 64), some (55, false)⟩,
              ⟨some 66, .iload false 1 (.tmp 65), some (55, false)⟩,
              ⟨some 67, .len 1 (.tmp 66), some (55, false)⟩,
              ⟨some 68, .bin .neq .num (.tmp 61) (.tmp 67), some (55, false)⟩,
              ⟨some 69, .pick (.tmp 55) (.val (.lit (.bool true))) (.tmp 68), none⟩,
              ⟨some 70, .val (.tmp 69), none⟩,
              ⟨some 71, .val (.tmp 0), some (70, false)⟩,
              ⟨some 72, .val (.tmp 5), some (70, false)⟩,
              ⟨some 73, .indexAddr 6 (.tmp 71) (.tmp 72), some (70, false)⟩,
              ⟨some 74, .fieldAddr 4 (.tmp 73), some (70, false)⟩,
              ⟨some 75, .iload false 1 (.tmp 74), some (70, false)⟩,
              ⟨some 76, .val (.tmp 1), some (70, false)⟩,
              ⟨some 77, .val (.tmp 5), some (70, false)⟩,
              ⟨some 78, .indexAddr 6 (.tmp 76) (.tmp 77), some (70, false)⟩,
              ⟨some 79, .fieldAddr 4 (.tmp 78), some (70, false)⟩,
              ⟨some 80, .iload false 1 (.tmp 79), some (70, false)⟩,
              ⟨some 81, .call (.val (.fn (.func 40) [] [])) [(.tmp 75), (.tmp 80)], some (70, false)⟩,
              ⟨some 82, .un .not (.tmp 81), some (70, false)⟩,
              ⟨some 83, .pick (.tmp 70) (.val (.lit (.bool true))) (.tmp 82), none⟩]) (
           .cond (.tmp 83) (
             .seq (
              .ops [⟨some 4, .val (.val (.lit (.bool false))), none⟩]) (
             .ret)) (
             .skip))) (
          .seq (
           .ops [⟨some 6, .val (.val (.lit (.int .i64 0))), none⟩]) (
          .block 2 (
            .loop a_bobbinref02_Sameb1))))) (
       .ops [⟨some 16, .val (.tmp 5), none⟩,
         ⟨some 17, .bin .add .num (.tmp 16) (.val (.lit (.int .i64 1))), none⟩,
         ⟨some 5, .val (.tmp 17), none⟩]))

def a_bobbinref02_Same : ACode :=
  .seq (
   .ops [⟨some 4, .val (.val (.lit (.bool false))), none⟩]) (
  .seq (
   .seq (
    .ops [⟨some 7, .val (.tmp 0), none⟩,
      ⟨some 8, .len 1 (.tmp 7), none⟩,
      ⟨some 9, .val (.tmp 1), none⟩,
      ⟨some 10, .len 1 (.tmp 9), none⟩,
      ⟨some 11, .bin .neq .num (.tmp 8) (.tmp 10), none⟩]) (
   .cond (.tmp 11) (
     .seq (
      .ops [⟨some 4, .val (.val (.lit (.bool false))), none⟩]) (
     .ret)) (
     .skip))) (
  .seq (
   .seq (
    .ops [⟨some 5, .val (.val (.lit (.int .i64 0))), none⟩]) (
   .block 0 (
     .loop a_bobbinref02_Sameb2))) (
  .seq (
   .ops [⟨some 4, .val (.val (.lit (.bool true))), none⟩]) (
  .ret))))

theorem c_bobbinref02_Same : codeOf Tryd.prog { il := [89, 98, 101, 106, 109, 22, 27, 34, 39, 47, 52, 60, 66, 75, 80] } 18 = some (a_bobbinref02_Same, [.tmp 4], 111) := by kernel_rfl

end Go.Proofs.YtebopfpgicamiaaDoor
