/- The code of functions, compiled (printed by wip/tools/kp.py). -/
import Derived.Test.YtanpcmkhhpaeiaaGreatDoorProg
import Derived.Test.YtanpcmkhhpaeiaaGreatDoorM3
namespace Go.Proofs.YtanpcmkhhpaeiaaGreatDoor
set_option linter.unusedSimpArgs false
set_option linter.unusedVariables false
open Go Go.Fw
/-- bobbin/bobbinlaw18.long -/
def a_bobbinlaw18_longb1 : ACode :=
              .seq (
               .seq (
                .ops [⟨some 46, .val (.tmp 5), none⟩,
                  ⟨some 47, .fieldAddr 2 (.tmp 1), none⟩,
                  ⟨some 48, .iload false 1 (.tmp 47), none⟩,
                  ⟨some 49, .val (.tmp 4), none⟩,
                  ⟨some 50, .indexAddr 5 (.tmp 48) (.tmp 49), none⟩,
                  ⟨some 51, .fieldAddr 4 (.tmp 50), none⟩,
                  ⟨some 52, .load false 1 (.tmp 51), none⟩,
                  ⟨some 53, .len 1 (.tmp 52), none⟩,
                  ⟨some 54, .bin .lss .num (.tmp 46) (.tmp 53), none⟩]) (
               .cond (.tmp 54) (
                 .skip) (
                 .exit 2))) (
              .seq (
               .block 3 (
                 .seq (
                  .ops [⟨some 57, .fieldAddr 2 (.tmp 1), none⟩,
                    ⟨some 58, .iload false 1 (.tmp 57), none⟩,
                    ⟨some 59, .val (.tmp 4), none⟩,
                    ⟨some 60, .indexAddr 5 (.tmp 58) (.tmp 59), none⟩,
                    ⟨some 61, .fieldAddr 4 (.tmp 60), none⟩,
                    ⟨some 62, .load false 1 (.tmp 61), none⟩,
                    ⟨some 63, .val (.tmp 5), none⟩,
                    ⟨some 64, .indexAddr 6 (.tmp 62) (.tmp 63), none⟩,
                    ⟨some 65, .fieldAddr 5 (.tmp 64), none⟩,
                    ⟨some 66, .load false 1 (.tmp 65), none⟩,
                    ⟨some 67, .len 1 (.tmp 66), none⟩,
                    ⟨some 68, .bin .gtr .num (.tmp 67) (.val (.lit (.int .i64 100))), none⟩]) (
                 .cond (.tmp 68) (
                   .seq (
                    .ops [⟨some 2, .val (.val (.lit (.bool true))), none⟩]) (
                   .ret)) (
                   .skip)))) (
              .ops [⟨some 55, .val (.tmp 5), none⟩,
                ⟨some 56, .bin .add .num (.tmp 55) (.val (.lit (.int .i64 1))), none⟩,
                ⟨some 5, .val (.tmp 56), none⟩]))

def a_bobbinlaw18_longb2 : ACode :=
       .seq (
        .seq (
         .ops [⟨some 22, .val (.tmp 4), none⟩,
           ⟨some 23, .fieldAddr 2 (.tmp 1), none⟩,
           ⟨some 24, .iload false 1 (.tmp 23), none⟩,
           ⟨some 25, .len 1 (.tmp 24), none⟩,
           ⟨some 26, .bin .lss .num (.tmp 22) (.tmp 25), none⟩]) (
        .cond (.tmp 26) (
          .skip) (
          .exit 0))) (
       .seq (
        .block 1 (
          .seq (
           .seq (
            .ops [⟨some 29, .fieldAddr 2 (.tmp 1), none⟩,
              ⟨some 30, .iload false 1 (.tmp 29), none⟩,
              ⟨some 31, .val (.tmp 4), none⟩,
              ⟨some 32, .indexAddr 5 (.tmp 30) (.tmp 31), none⟩,
              ⟨some 33, .fieldAddr 4 (.tmp 32), none⟩,
              ⟨some 34, .load false 1 (.tmp 33), none⟩,
              ⟨some 35, .len 1 (.tmp 34), none⟩,
              ⟨some 36, .bin .gtr .num (.tmp 35) (.val (.lit (.int .i64 600))), none⟩]) (
           .cond (.tmp 36) (
             .seq (
              .ops [⟨some 2, .val (.val (.lit (.bool true))), none⟩]) (
             .ret)) (
             .skip))) (
          .seq (
           .ops [⟨some 37, .val (.tmp 3), none⟩,
             ⟨some 38, .fieldAddr 2 (.tmp 1), none⟩,
             ⟨some 39, .iload false 1 (.tmp 38), none⟩,
             ⟨some 40, .val (.tmp 4), none⟩,
             ⟨some 41, .indexAddr 5 (.tmp 39) (.tmp 40), none⟩,
             ⟨some 42, .fieldAddr 4 (.tmp 41), none⟩,
             ⟨some 43, .load false 1 (.tmp 42), none⟩,
             ⟨some 44, .len 1 (.tmp 43), none⟩,
             ⟨some 45, .bin .add .num (.tmp 37) (.tmp 44), none⟩,
             ⟨some 3, .val (.tmp 45), none⟩]) (
          .seq (
           .ops [⟨some 5, .val (.val (.lit (.int .i64 0))), none⟩]) (
          .block 2 (
            .loop a_bobbinlaw18_longb1)))))) (
       .ops [⟨some 27, .val (.tmp 4), none⟩,
         ⟨some 28, .bin .add .num (.tmp 27) (.val (.lit (.int .i64 1))), none⟩,
         ⟨some 4, .val (.tmp 28), none⟩]))

def a_bobbinlaw18_long : ACode :=
  .seq (
   .ops [⟨some 1, .box true (.tmp 0), none⟩,
     ⟨some 2, .val (.val (.lit (.bool false))), none⟩]) (
  .seq (
   .seq (
    .ops [⟨some 6, .fieldAddr 2 (.tmp 1), none⟩,
      ⟨some 7, .iload false 1 (.tmp 6), none⟩,
      ⟨some 8, .len 1 (.tmp 7), none⟩,
      ⟨some 9, .bin .gtr .num (.tmp 8) (.val (.lit (.int .i64 20))), none⟩,
      ⟨some 10, .val (.tmp 9), none⟩,
      ⟨some 11, .fieldAddr 0 (.tmp 1), some (10, false)⟩,
      ⟨some 12, .iload false 1 (.tmp 11), some (10, false)⟩,
      ⟨some 13, .len 1 (.tmp 12), some (10, false)⟩,
      ⟨some 14, .bin .gtr .num (.tmp 13) (.val (.lit (.int .i64 300))), some (10, false)⟩,
      ⟨some 15, .pick (.tmp 10) (.val (.lit (.bool true))) (.tmp 14), none⟩,
      ⟨some 16, .val (.tmp 15), none⟩,
      ⟨some 17, .fieldAddr 1 (.tmp 1), some (16, false)⟩,
      ⟨some 18, .iload false 1 (.tmp 17), some (16, false)⟩,
      ⟨some 19, .len 1 (.tmp 18), some (16, false)⟩,
      ⟨some 20, .bin .gtr .num (.tmp 19) (.val (.lit (.int .i64 300))), some (16, false)⟩,
      ⟨some 21, .pick (.tmp 16) (.val (.lit (.bool true))) (.tmp 20), none⟩]) (
   .cond (.tmp 21) (
     .seq (
      .ops [⟨some 2, .val (.val (.lit (.bool true))), none⟩]) (
     .ret)) (
     .skip))) (
  .seq (
   .ops [⟨some 3, .val (.val (.lit (.int .i64 0))), none⟩]) (
  .seq (
   .seq (
    .ops [⟨some 4, .val (.val (.lit (.int .i64 0))), none⟩]) (
   .block 0 (
     .loop a_bobbinlaw18_longb2))) (
  .seq (
   .ops [⟨some 69, .val (.tmp 3), none⟩,
     ⟨some 70, .bin .gtr .num (.tmp 69) (.val (.lit (.int .i64 1500))), none⟩,
     ⟨some 2, .val (.tmp 70), none⟩]) (
  .ret)))))

theorem c_bobbinlaw18_long : codeOf Tryz.prog { bz := [1], il := [7, 12, 18, 24, 30, 39, 48, 58] } 10 = some (a_bobbinlaw18_long, [.tmp 2], 71) := by kernel_rfl

/-- bobbin/bobbinlaw18.example -/
def a_bobbinlaw18_example : ACode :=
  .seq (
   .ops [⟨some 0, .alloc [(.sl .nil 0 []), (.sl .nil 0 []), (.sl .nil 0 [])], none⟩]) (
  .seq (
   .ops [⟨some 3, .build [(.lit (.int .u8 0)), (.lit (.int .i64 0)), (.lit (.int .i64 0)), (.lit (.int .i64 0)), (.lit (.int .i64 0)), (.sl .nil 0 [])] [(0, 1, (.val (.lit (.int .u8 7)))), (4, 1, (.val (.lit (.int .i64 0))))], none⟩,
     ⟨some 4, .build [(.lit (.int .u8 0)), (.lit (.int .i64 0)), (.lit (.int .i64 0)), (.lit (.int .i64 0)), (.lit (.int .i64 0)), (.sl .nil 0 [])] [(0, 1, (.val (.lit (.int .u8 8)))), (4, 1, (.val (.lit (.int .i64 0))))], none⟩,
     ⟨some 5, .build [(.lit (.int .u8 0)), (.lit (.int .i64 0)), (.lit (.int .i64 0)), (.lit (.int .i64 0)), (.lit (.int .i64 0)), (.sl .nil 0 [])] [(0, 1, (.val (.lit (.int .u8 1))))], none⟩,
     ⟨some 6, .build [(.lit (.int .u8 0)), (.lit (.int .i64 0)), (.lit (.int .i64 0)), (.lit (.int .i64 0)), (.lit (.int .i64 0)), (.sl .nil 0 [])] [(0, 1, (.val (.lit (.int .u8 13))))], none⟩,
     ⟨some 7, .bslice false 6 4 [(.lit (.int .u8 0)), (.lit (.int .i64 0)), (.lit (.int .i64 0)), (.lit (.int .i64 0)), (.lit (.int .i64 0)), (.sl .nil 0 []), (.lit (.int .u8 0)), (.lit (.int .i64 0)), (.lit (.int .i64 0)), (.lit (.int .i64 0)), (.lit (.int .i64 0)), (.sl .nil 0 []), (.lit (.int .u8 0)), (.lit (.int .i64 0)), (.lit (.int .i64 0)), (.lit (.int .i64 0)), (.lit (.int .i64 0)), (.sl .nil 0 []), (.lit (.int .u8 0)), (.lit (.int .i64 0)), (.lit (.int .i64 0)), (.lit (.int .i64 0)), (.lit (.int .i64 0)), (.sl .nil 0 [])] [(0, 6, (.tmp 3)), (6, 6, (.tmp 4)), (12, 6, (.tmp 5)), (18, 6, (.tmp 6))], none⟩,
     ⟨some 8, .build [(.lit (.string ⟨#[]⟩)), (.lit (.bool false)), (.lit (.int .i64 0)), (.lit (.int .i64 0)), (.sl .nil 0 [])] [(0, 1, (.val (.lit (.string ⟨#[102]⟩)))), (3, 1, (.val (.lit (.int .i64 1)))), (4, 1, (.tmp 7))], none⟩,
     ⟨some 1, .alloc [(.lit (.string ⟨#[]⟩)), (.lit (.bool false)), (.lit (.int .i64 0)), (.lit (.int .i64 0)), (.sl .nil 0 [])], none⟩,
     ⟨none, .store 5 (.tmp 1) (.tmp 8), none⟩]) (
  .seq (
   .ops [⟨some 9, .build [(.lit (.int .u8 0)), (.lit (.int .i64 0)), (.lit (.int .i64 0)), (.lit (.int .i64 0)), (.lit (.int .i64 0)), (.sl .nil 0 [])] [(0, 1, (.val (.lit (.int .u8 5)))), (2, 1, (.val (.lit (.int .i64 (-1))))), (4, 1, (.val (.lit (.int .i64 1))))], none⟩,
     ⟨some 10, .build [(.lit (.int .u8 0)), (.lit (.int .i64 0)), (.lit (.int .i64 0)), (.lit (.int .i64 0)), (.lit (.int .i64 0)), (.sl .nil 0 [])] [(0, 1, (.val (.lit (.int .u8 6)))), (2, 1, (.val (.lit (.int .i64 (-1))))), (4, 1, (.val (.lit (.int .i64 0))))], none⟩,
     ⟨some 11, .build [(.lit (.int .u8 0)), (.lit (.int .i64 0)), (.lit (.int .i64 0)), (.lit (.int .i64 0)), (.lit (.int .i64 0)), (.sl .nil 0 [])] [(0, 1, (.val (.lit (.int .u8 10)))), (1, 1, (.val (.lit (.int .i64 1)))), (4, 1, (.val (.lit (.int .i64 0))))], none⟩,
     ⟨some 12, .build [(.lit (.int .u8 0)), (.lit (.int .i64 0)), (.lit (.int .i64 0)), (.lit (.int .i64 0)), (.lit (.int .i64 0)), (.sl .nil 0 [])] [(0, 1, (.val (.lit (.int .u8 13)))), (2, 1, (.val (.lit (.int .i64 1))))], none⟩,
     ⟨some 13, .bslice false 6 4 [(.lit (.int .u8 0)), (.lit (.int .i64 0)), (.lit (.int .i64 0)), (.lit (.int .i64 0)), (.lit (.int .i64 0)), (.sl .nil 0 []), (.lit (.int .u8 0)), (.lit (.int .i64 0)), (.lit (.int .i64 0)), (.lit (.int .i64 0)), (.lit (.int .i64 0)), (.sl .nil 0 []), (.lit (.int .u8 0)), (.lit (.int .i64 0)), (.lit (.int .i64 0)), (.lit (.int .i64 0)), (.lit (.int .i64 0)), (.sl .nil 0 []), (.lit (.int .u8 0)), (.lit (.int .i64 0)), (.lit (.int .i64 0)), (.lit (.int .i64 0)), (.lit (.int .i64 0)), (.sl .nil 0 [])] [(0, 6, (.tmp 9)), (6, 6, (.tmp 10)), (12, 6, (.tmp 11)), (18, 6, (.tmp 12))], none⟩,
     ⟨some 14, .build [(.lit (.string ⟨#[]⟩)), (.lit (.bool false)), (.lit (.int .i64 0)), (.lit (.int .i64 0)), (.sl .nil 0 [])] [(0, 1, (.val (.lit (.string ⟨#[116]⟩)))), (1, 1, (.val (.lit (.bool true)))), (3, 1, (.val (.lit (.int .i64 2)))), (4, 1, (.tmp 13))], none⟩,
     ⟨some 2, .alloc [(.lit (.string ⟨#[]⟩)), (.lit (.bool false)), (.lit (.int .i64 0)), (.lit (.int .i64 0)), (.sl .nil 0 [])], none⟩,
     ⟨none, .store 5 (.tmp 2) (.tmp 14), none⟩]) (
  .seq (
   .ops [⟨some 15, .build [(.lit (.string ⟨#[]⟩)), (.lit (.int .i64 0)), (.lit (.int .i64 0))] [(0, 1, (.val (.lit (.string ⟨#[120]⟩)))), (1, 1, (.val (.lit (.int .i64 1))))], none⟩,
     ⟨some 16, .build [(.lit (.string ⟨#[]⟩)), (.lit (.int .i64 0)), (.lit (.int .i64 0))] [(0, 1, (.val (.lit (.string ⟨#[121]⟩)))), (1, 1, (.val (.lit (.int .i64 1))))], none⟩,
     ⟨some 17, .bslice false 3 2 [(.lit (.string ⟨#[]⟩)), (.lit (.int .i64 0)), (.lit (.int .i64 0)), (.lit (.string ⟨#[]⟩)), (.lit (.int .i64 0)), (.lit (.int .i64 0))] [(0, 3, (.tmp 15)), (3, 3, (.tmp 16))], none⟩,
     ⟨some 18, .bslice false 1 1 [(.lit (.string ⟨#[]⟩))] [(0, 1, (.val (.lit (.string ⟨#[108]⟩))))], none⟩,
     ⟨some 19, .load true 5 (.tmp 1), none⟩,
     ⟨some 20, .load true 5 (.tmp 2), none⟩,
     ⟨some 21, .bslice false 5 2 [(.lit (.string ⟨#[]⟩)), (.lit (.bool false)), (.lit (.int .i64 0)), (.lit (.int .i64 0)), (.sl .nil 0 []), (.lit (.string ⟨#[]⟩)), (.lit (.bool false)), (.lit (.int .i64 0)), (.lit (.int .i64 0)), (.sl .nil 0 [])] [(0, 5, (.tmp 19)), (5, 5, (.tmp 20))], none⟩,
     ⟨some 22, .build [(.sl .nil 0 []), (.sl .nil 0 []), (.sl .nil 0 [])] [(0, 1, (.tmp 17)), (1, 1, (.tmp 18)), (2, 1, (.tmp 21))], none⟩,
     ⟨none, .store 3 (.tmp 0) (.tmp 22), none⟩]) (
  .ret))))

theorem c_bobbinlaw18_example : codeOf Tryz.prog {  } 30 = some (a_bobbinlaw18_example, [.cell 0 3 true], 23) := by kernel_rfl

/-- bobbin/bobbinlaw18.awake -/
def o_awk0 : List AOper :=
     [⟨some 16, .val (.tmp 3), none⟩,
     ⟨some 17, .bin .eql .num (.tmp 16) (.val (.lit (.int .i64 0))), none⟩,
     ⟨some 18, .val (.tmp 17), none⟩,
     ⟨some 19, .val (.tmp 2), some (18, true)⟩,
     ⟨some 20, .len 1 (.tmp 19), some (18, true)⟩,
     ⟨some 21, .bin .eql .num (.tmp 20) (.val (.lit (.int .i64 2))), some (18, true)⟩,
     ⟨some 22, .pick (.tmp 18) (.tmp 21) (.val (.lit (.bool false))), none⟩,
     ⟨some 23, .val (.tmp 22), none⟩,
     ⟨some 24, .val (.tmp 2), some (23, true)⟩,
     ⟨some 25, .indexAddr 5 (.tmp 24) (.val (.lit (.int .i64 1))), some (23, true)⟩,
     ⟨some 26, .fieldAddr 0 (.tmp 25), some (23, true)⟩,
     ⟨some 27, .load false 1 (.tmp 26), some (23, true)⟩,
     ⟨some 28, .bslice false 1 1 [(.lit (.int .i64 0))] [(0, 1, (.val (.lit (.int .i64 1))))], some (23, true)⟩,
     ⟨some 29, .call (.val (.fn (.func 14) [] [])) [(.tmp 27), (.tmp 28)], some (23, true)⟩,
     ⟨some 30, .pick (.tmp 23) (.tmp 29) (.val (.lit (.bool false))), none⟩]

def o_awk1 : List AOper :=
     [⟨some 31, .val (.tmp 30), none⟩,
     ⟨some 32, .val (.tmp 2), some (31, true)⟩,
     ⟨some 33, .indexAddr 5 (.tmp 32) (.val (.lit (.int .i64 1))), some (31, true)⟩,
     ⟨some 34, .fieldAddr 1 (.tmp 33), some (31, true)⟩,
     ⟨some 35, .load false 1 (.tmp 34), some (31, true)⟩,
     ⟨some 36, .bslice false 1 1 [(.lit (.int .i64 0))] [(0, 1, (.val (.lit (.int .i64 0))))], some (31, true)⟩,
     ⟨some 37, .call (.val (.fn (.func 14) [] [])) [(.tmp 35), (.tmp 36)], some (31, true)⟩,
     ⟨some 38, .pick (.tmp 31) (.tmp 37) (.val (.lit (.bool false))), none⟩]

def o_awk2 : List AOper :=
     [⟨some 39, .val (.tmp 38), none⟩,
     ⟨some 40, .val (.tmp 2), some (39, true)⟩,
     ⟨some 41, .indexAddr 5 (.tmp 40) (.val (.lit (.int .i64 1))), some (39, true)⟩,
     ⟨some 42, .fieldAddr 2 (.tmp 41), some (39, true)⟩,
     ⟨some 43, .load false 1 (.tmp 42), some (39, true)⟩,
     ⟨some 44, .bslice false 1 1 [(.lit (.int .i64 0))] [(0, 1, (.val (.lit (.int .i64 0))))], some (39, true)⟩,
     ⟨some 45, .call (.val (.fn (.func 14) [] [])) [(.tmp 43), (.tmp 44)], some (39, true)⟩,
     ⟨some 46, .pick (.tmp 39) (.tmp 45) (.val (.lit (.bool false))), none⟩]

def o_awk3 : List AOper :=
     [⟨some 47, .val (.tmp 46), none⟩,
     ⟨some 48, .val (.tmp 2), some (47, true)⟩,
     ⟨some 49, .indexAddr 5 (.tmp 48) (.val (.lit (.int .i64 1))), some (47, true)⟩,
     ⟨some 50, .fieldAddr 4 (.tmp 49), some (47, true)⟩,
     ⟨some 51, .load false 1 (.tmp 50), some (47, true)⟩,
     ⟨some 52, .bslice false 1 1 [(.lit (.int .i64 0))] [(0, 1, (.val (.lit (.int .i64 0))))], some (47, true)⟩,
     ⟨some 53, .call (.val (.fn (.func 14) [] [])) [(.tmp 51), (.tmp 52)], some (47, true)⟩,
     ⟨some 54, .pick (.tmp 47) (.tmp 53) (.val (.lit (.bool false))), none⟩]

def o_awk4 : List AOper :=
     [⟨some 55, .val (.tmp 54), none⟩,
     ⟨some 56, .fieldAddr 2 (.tmp 4), some (55, true)⟩,
     ⟨some 57, .load false 1 (.tmp 56), some (55, true)⟩,
     ⟨some 58, .len 1 (.tmp 57), some (55, true)⟩,
     ⟨some 59, .bin .eql .num (.tmp 58) (.val (.lit (.int .i64 0))), some (55, true)⟩,
     ⟨some 60, .pick (.tmp 55) (.tmp 59) (.val (.lit (.bool false))), none⟩,
     ⟨some 61, .val (.tmp 60), none⟩,
     ⟨some 62, .load true 3 (.tmp 1), some (61, true)⟩,
     ⟨some 63, .call (.val (.fn (.func 15) [] [])) [(.tmp 62)], some (61, true)⟩,
     ⟨some 64, .bslice false 1 1 [(.lit (.int .i64 0))] [(0, 1, (.val (.lit (.int .i64 1))))], some (61, true)⟩,
     ⟨some 65, .call (.val (.fn (.func 14) [] [])) [(.tmp 63), (.tmp 64)], some (61, true)⟩,
     ⟨some 66, .pick (.tmp 61) (.tmp 65) (.val (.lit (.bool false))), none⟩,
     ⟨some 0, .val (.tmp 66), none⟩]

def a_awk_z : ACode :=
   .ops (o_awk0 ++ (o_awk1 ++ (o_awk2 ++ (o_awk3 ++ o_awk4))))

def a_bobbinlaw18_awake : ACode :=
  .seq (
   .ops [⟨some 0, .val (.val (.lit (.bool false))), none⟩]) (
  .seq (
   .ops [⟨some 5, .call (.val (.fn (.func 30) [] [])) [], none⟩,
     ⟨some 1, .alloc [(.sl .nil 0 []), (.sl .nil 0 []), (.sl .nil 0 [])], none⟩,
     ⟨none, .store 3 (.tmp 1) (.tmp 5), none⟩]) (
  .seq (
   .ops [⟨some 7, .load true 3 (.tmp 1), none⟩,
     ⟨some 8, .call (.val (.fn (.func 12) [] [])) [(.tmp 7)], none⟩,
     ⟨some 6, .val (.tmp 8), none⟩,
     ⟨some 9, .extract (.tmp 6) 0, none⟩,
     ⟨some 10, .extract (.tmp 6) 1, none⟩,
     ⟨some 2, .val (.tmp 9), none⟩,
     ⟨some 3, .val (.tmp 10), none⟩]) (
  .seq (
   .ops [⟨some 11, .fieldAddr 2 (.tmp 1), none⟩,
     ⟨some 12, .load false 1 (.tmp 11), none⟩,
     ⟨some 13, .indexAddr 5 (.tmp 12) (.val (.lit (.int .i64 1))), none⟩,
     ⟨some 14, .load true 5 (.tmp 13), none⟩,
     ⟨some 15, .call (.val (.fn (.func 19) [] [])) [(.tmp 14)], none⟩,
     ⟨some 4, .alloc [(.sl .nil 0 []), (.sl .nil 0 []), (.sl .nil 0 []), (.sl .nil 0 []), (.sl .nil 0 [])], none⟩,
     ⟨none, .store 5 (.tmp 4) (.tmp 15), none⟩]) (
  .seq a_awk_z (
  .ret)))))

theorem c_bobbinlaw18_awake : codeOf Tryz.prog {  } 11 = some (a_bobbinlaw18_awake, [.tmp 0], 67) := by kernel_rfl

/-- bobbin/bobbinlaw18.given -/
def a_bobbinlaw18_given : ACode :=
  .seq (
   .ops [⟨some 1, .box true (.tmp 0), none⟩,
     ⟨some 2, .alloc [(.sl .nil 0 []), (.sl .nil 0 []), (.sl .nil 0 []), (.sl .nil 0 []), (.sl .nil 0 [])], none⟩]) (
  .seq (
   .ops [⟨some 3, .fieldAddr 0 (.tmp 1), none⟩,
     ⟨some 4, .iload false 1 (.tmp 3), none⟩,
     ⟨some 5, .fieldAddr 1 (.tmp 1), none⟩,
     ⟨some 6, .iload false 1 (.tmp 5), none⟩,
     ⟨some 7, .fieldAddr 2 (.tmp 1), none⟩,
     ⟨some 8, .iload false 1 (.tmp 7), none⟩,
     ⟨some 9, .fieldAddr 3 (.tmp 1), none⟩,
     ⟨some 10, .iload false 1 (.tmp 9), none⟩,
     ⟨some 11, .fieldAddr 4 (.tmp 1), none⟩,
     ⟨some 12, .iload false 1 (.tmp 11), none⟩,
     ⟨some 13, .build [(.sl .nil 0 []), (.sl .nil 0 []), (.sl .nil 0 []), (.sl .nil 0 []), (.sl .nil 0 [])] [(0, 1, (.tmp 4)), (1, 1, (.tmp 6)), (2, 1, (.tmp 8)), (3, 1, (.tmp 10)), (4, 1, (.tmp 12))], none⟩,
     ⟨none, .store 5 (.tmp 2) (.tmp 13), none⟩]) (
  .ret))

theorem c_bobbinlaw18_given : codeOf Tryz.prog { bz := [1], il := [4, 6, 8, 10, 12] } 24 = some (a_bobbinlaw18_given, [.cell 2 5 true], 14) := by kernel_rfl

/-- bobbin/bobbinlaw18.within -/
def a_bobbinlaw18_within : ACode :=
  .seq (
   .ops [⟨some 4, .val (.val (.lit (.bool false))), none⟩]) (
  .seq (
   .ops [⟨some 5, .val (.tmp 0), none⟩,
     ⟨some 6, .val (.tmp 1), none⟩,
     ⟨some 7, .call (.val (.fn (.func 35) [] [])) [(.tmp 5), (.tmp 6)], none⟩,
     ⟨some 8, .val (.tmp 1), none⟩,
     ⟨some 9, .call (.val (.fn (.func 14) [] [])) [(.tmp 7), (.tmp 8)], none⟩,
     ⟨some 4, .val (.tmp 9), none⟩]) (
  .ret))

theorem c_bobbinlaw18_within : codeOf Tryz.prog {  } 25 = some (a_bobbinlaw18_within, [.tmp 4], 10) := by kernel_rfl

/-- bobbin/bobbinlaw18.TouchNames -/
def o_tnm0 : List AOper :=
     [⟨some 25, .val (.tmp 2), none⟩,
     ⟨some 26, .bin .eql .num (.tmp 25) (.val (.lit (.int .i64 4))), none⟩,
     ⟨some 27, .val (.tmp 26), none⟩,
     ⟨some 28, .val (.tmp 3), some (27, true)⟩,
     ⟨some 29, .len 1 (.tmp 28), some (27, true)⟩,
     ⟨some 30, .bin .eql .num (.tmp 29) (.val (.lit (.int .i64 0))), some (27, true)⟩,
     ⟨some 31, .pick (.tmp 27) (.tmp 30) (.val (.lit (.bool false))), none⟩,
     ⟨some 32, .val (.tmp 31), none⟩,
     ⟨some 33, .val (.tmp 4), some (32, true)⟩,
     ⟨some 34, .bin .eql .num (.tmp 33) (.val (.lit (.int .i64 0))), some (32, true)⟩,
     ⟨some 35, .pick (.tmp 32) (.tmp 34) (.val (.lit (.bool false))), none⟩,
     ⟨some 36, .val (.tmp 35), none⟩,
     ⟨some 37, .fieldAddr 4 (.tmp 5), some (36, true)⟩,
     ⟨some 38, .load false 1 (.tmp 37), some (36, true)⟩,
     ⟨some 39, .bslice false 1 2 [(.lit (.int .i64 0)), (.lit (.int .i64 0))] [(0, 1, (.val (.lit (.int .i64 3)))), (1, 1, (.val (.lit (.int .i64 5))))], some (36, true)⟩,
     ⟨some 40, .call (.val (.fn (.func 14) [] [])) [(.tmp 38), (.tmp 39)], some (36, true)⟩,
     ⟨some 41, .pick (.tmp 36) (.tmp 40) (.val (.lit (.bool false))), none⟩]

def o_tnm1 : List AOper :=
     [⟨some 42, .val (.tmp 41), none⟩,
     ⟨some 43, .fieldAddr 1 (.tmp 5), some (42, true)⟩,
     ⟨some 44, .load false 1 (.tmp 43), some (42, true)⟩,
     ⟨some 45, .bslice false 1 1 [(.lit (.int .i64 0))] [(0, 1, (.val (.lit (.int .i64 (-1)))))], some (42, true)⟩,
     ⟨some 46, .call (.val (.fn (.func 14) [] [])) [(.tmp 44), (.tmp 45)], some (42, true)⟩,
     ⟨some 47, .pick (.tmp 42) (.tmp 46) (.val (.lit (.bool false))), none⟩]

def o_tnm2 : List AOper :=
     [⟨some 48, .val (.tmp 47), none⟩,
     ⟨some 49, .build [(.sl .nil 0 []), (.sl .nil 0 []), (.sl .nil 0 [])] [], some (48, true)⟩,
     ⟨some 50, .call (.val (.fn (.func 15) [] [])) [(.tmp 49)], some (48, true)⟩,
     ⟨some 51, .len 1 (.tmp 50), some (48, true)⟩,
     ⟨some 52, .bin .eql .num (.tmp 51) (.val (.lit (.int .i64 0))), some (48, true)⟩,
     ⟨some 53, .pick (.tmp 48) (.tmp 52) (.val (.lit (.bool false))), none⟩,
     ⟨some 54, .val (.tmp 53), none⟩,
     ⟨some 55, .call (.val (.fn (.func 11) [] [])) [], some (54, true)⟩,
     ⟨some 56, .pick (.tmp 54) (.tmp 55) (.val (.lit (.bool false))), none⟩,
     ⟨some 0, .val (.tmp 56), none⟩]

def a_tnm_z : ACode :=
   .ops (o_tnm0 ++ (o_tnm1 ++ o_tnm2))

def a_bobbinlaw18_TouchNames : ACode :=
  .seq (
   .ops [⟨some 0, .val (.val (.lit (.bool false))), none⟩]) (
  .seq (
   .ops [⟨some 7, .build [(.lit (.string ⟨#[]⟩)), (.lit (.bool false)), (.lit (.int .i64 0)), (.lit (.int .i64 0)), (.sl .nil 0 [])] [], none⟩,
     ⟨some 8, .bslice false 5 1 [(.lit (.string ⟨#[]⟩)), (.lit (.bool false)), (.lit (.int .i64 0)), (.lit (.int .i64 0)), (.sl .nil 0 [])] [(0, 5, (.tmp 7))], none⟩,
     ⟨some 9, .build [(.sl .nil 0 []), (.sl .nil 0 []), (.sl .nil 0 [])] [(2, 1, (.tmp 8))], none⟩,
     ⟨some 10, .call (.val (.fn (.func 12) [] [])) [(.tmp 9)], none⟩,
     ⟨some 6, .val (.tmp 10), none⟩,
     ⟨some 11, .extract (.tmp 6) 0, none⟩,
     ⟨some 12, .extract (.tmp 6) 1, none⟩,
     ⟨some 1, .val (.tmp 11), none⟩,
     ⟨some 2, .val (.tmp 12), none⟩]) (
  .seq (
   .ops [⟨some 14, .build [(.sl .nil 0 []), (.sl .nil 0 []), (.sl .nil 0 [])] [], none⟩,
     ⟨some 15, .call (.val (.fn (.func 12) [] [])) [(.tmp 14)], none⟩,
     ⟨some 13, .val (.tmp 15), none⟩,
     ⟨some 16, .extract (.tmp 13) 0, none⟩,
     ⟨some 17, .extract (.tmp 13) 1, none⟩,
     ⟨some 3, .val (.tmp 16), none⟩,
     ⟨some 4, .val (.tmp 17), none⟩]) (
  .seq (
   .ops [⟨some 18, .build [(.lit (.int .u8 0)), (.lit (.int .i64 0)), (.lit (.int .i64 0)), (.lit (.int .i64 0)), (.lit (.int .i64 0)), (.sl .nil 0 [])] [(0, 1, (.val (.lit (.int .u8 10)))), (4, 1, (.val (.lit (.int .i64 5))))], none⟩,
     ⟨some 19, .build [(.lit (.int .u8 0)), (.lit (.int .i64 0)), (.lit (.int .i64 0)), (.lit (.int .i64 0)), (.lit (.int .i64 0)), (.sl .nil 0 [])] [(0, 1, (.val (.lit (.int .u8 10)))), (4, 1, (.val (.lit (.int .i64 3))))], none⟩,
     ⟨some 20, .build [(.lit (.int .u8 0)), (.lit (.int .i64 0)), (.lit (.int .i64 0)), (.lit (.int .i64 0)), (.lit (.int .i64 0)), (.sl .nil 0 [])] [(0, 1, (.val (.lit (.int .u8 10)))), (4, 1, (.val (.lit (.int .i64 5))))], none⟩,
     ⟨some 21, .build [(.lit (.int .u8 0)), (.lit (.int .i64 0)), (.lit (.int .i64 0)), (.lit (.int .i64 0)), (.lit (.int .i64 0)), (.sl .nil 0 [])] [(0, 1, (.val (.lit (.int .u8 6)))), (4, 1, (.val (.lit (.int .i64 (-1)))))], none⟩,
     ⟨some 22, .bslice false 6 4 [(.lit (.int .u8 0)), (.lit (.int .i64 0)), (.lit (.int .i64 0)), (.lit (.int .i64 0)), (.lit (.int .i64 0)), (.sl .nil 0 []), (.lit (.int .u8 0)), (.lit (.int .i64 0)), (.lit (.int .i64 0)), (.lit (.int .i64 0)), (.lit (.int .i64 0)), (.sl .nil 0 []), (.lit (.int .u8 0)), (.lit (.int .i64 0)), (.lit (.int .i64 0)), (.lit (.int .i64 0)), (.lit (.int .i64 0)), (.sl .nil 0 []), (.lit (.int .u8 0)), (.lit (.int .i64 0)), (.lit (.int .i64 0)), (.lit (.int .i64 0)), (.lit (.int .i64 0)), (.sl .nil 0 [])] [(0, 6, (.tmp 18)), (6, 6, (.tmp 19)), (12, 6, (.tmp 20)), (18, 6, (.tmp 21))], none⟩,
     ⟨some 23, .build [(.lit (.string ⟨#[]⟩)), (.lit (.bool false)), (.lit (.int .i64 0)), (.lit (.int .i64 0)), (.sl .nil 0 [])] [(4, 1, (.tmp 22))], none⟩,
     ⟨some 24, .call (.val (.fn (.func 19) [] [])) [(.tmp 23)], none⟩,
     ⟨some 5, .alloc [(.sl .nil 0 []), (.sl .nil 0 []), (.sl .nil 0 []), (.sl .nil 0 []), (.sl .nil 0 [])], none⟩,
     ⟨none, .store 5 (.tmp 5) (.tmp 24), none⟩]) (
  .seq a_tnm_z (
  .ret)))))

theorem c_bobbinlaw18_TouchNames : codeOf Tryz.prog {  } 5 = some (a_bobbinlaw18_TouchNames, [.tmp 0], 57) := by kernel_rfl

end Go.Proofs.YtanpcmkhhpaeiaaGreatDoor
