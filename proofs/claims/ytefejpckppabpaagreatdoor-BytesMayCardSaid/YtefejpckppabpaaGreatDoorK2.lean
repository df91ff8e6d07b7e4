/- The code of functions, compiled (printed by wip/tools/kp.py). -/
import Derived.Test.YtefejpckppabpaaGreatDoorProg
import Derived.Test.YtefejpckppabpaaGreatDoorM3
namespace Go.Proofs.YtefejpckppabpaaGreatDoor
set_option linter.unusedSimpArgs false
set_option linter.unusedVariables false
open Go Go.Fw
/-- bobbin/bobbinref07.Reads -/
def a_bobbinref07_Reads : ACode :=
  .seq (
   .ops [⟨some 1, .box true (.tmp 0), none⟩,
     ⟨some 2, .val (.val (.sl .nil 0 [])), none⟩]) (
  .seq (
   .ops [⟨some 3, .val (.val (.sl .nil 0 [])), none⟩]) (
  .seq (
   .seq (
    .ops [⟨some 4, .fieldAddr 0 (.tmp 1), none⟩,
      ⟨some 5, .iload false 1 (.tmp 4), none⟩]) (
   .block 0 (
     .seq (
      .seq (
       .ops [⟨some 7, .bin .eql .num (.tmp 5) (.val (.lit (.int .u8 2))), none⟩,
         ⟨some 6, .val (.tmp 7), none⟩]) (
      .cond (.tmp 6) (
        .skip) (
        .seq (
         .ops [⟨some 8, .bin .eql .num (.tmp 5) (.val (.lit (.int .u8 3))), none⟩,
           ⟨some 6, .val (.tmp 8), none⟩]) (
        .cond (.tmp 6) (
          .skip) (
          .seq (
           .ops [⟨some 9, .bin .eql .num (.tmp 5) (.val (.lit (.int .u8 9))), none⟩,
             ⟨some 6, .val (.tmp 9), none⟩]) (
          .cond (.tmp 6) (
            .skip) (
            .seq (
             .ops [⟨some 10, .bin .eql .num (.tmp 5) (.val (.lit (.int .u8 12))), none⟩,
               ⟨some 6, .val (.tmp 10), none⟩]) (
            .cond (.tmp 6) (
              .skip) (
              .ops [⟨some 11, .bin .eql .num (.tmp 5) (.val (.lit (.int .u8 13))), none⟩,
                ⟨some 6, .val (.tmp 11), none⟩]))))))))) (
     .cond (.tmp 6) (
       .ops [⟨some 12, .val (.tmp 3), none⟩,
         ⟨some 13, .fieldAddr 2 (.tmp 1), none⟩,
         ⟨some 14, .iload false 1 (.tmp 13), none⟩,
         ⟨some 15, .bslice false 1 1 [(.lit (.int .i64 0))] [(0, 1, (.tmp 14))], none⟩,
         ⟨some 16, .append false 1 8 (.tmp 12) (.tmp 15), none⟩,
         ⟨some 3, .val (.tmp 16), none⟩]) (
       .seq (
        .ops [⟨some 18, .bin .eql .num (.tmp 5) (.val (.lit (.int .u8 4))), none⟩,
          ⟨some 17, .val (.tmp 18), none⟩]) (
       .cond (.tmp 17) (
         .ops [⟨some 19, .val (.tmp 3), none⟩,
           ⟨some 20, .fieldAddr 2 (.tmp 1), none⟩,
           ⟨some 21, .iload false 1 (.tmp 20), none⟩,
           ⟨some 22, .fieldAddr 3 (.tmp 1), none⟩,
           ⟨some 23, .iload false 1 (.tmp 22), none⟩,
           ⟨some 24, .bslice false 1 2 [(.lit (.int .i64 0)), (.lit (.int .i64 0))] [(0, 1, (.tmp 21)), (1, 1, (.tmp 23))], none⟩,
           ⟨some 25, .append false 1 8 (.tmp 19) (.tmp 24), none⟩,
           ⟨some 3, .val (.tmp 25), none⟩]) (
         .seq (
          .ops [⟨some 27, .bin .eql .num (.tmp 5) (.val (.lit (.int .u8 5))), none⟩,
            ⟨some 26, .val (.tmp 27), none⟩]) (
         .cond (.tmp 26) (
           .seq (
            .ops [⟨some 28, .fieldAddr 2 (.tmp 1), none⟩,
              ⟨some 29, .iload false 1 (.tmp 28), none⟩,
              ⟨some 30, .bin .neq .num (.tmp 29) (.val (.lit (.int .i64 (-1)))), none⟩]) (
           .cond (.tmp 30) (
             .ops [⟨some 31, .val (.tmp 3), none⟩,
               ⟨some 32, .fieldAddr 2 (.tmp 1), none⟩,
               ⟨some 33, .iload false 1 (.tmp 32), none⟩,
               ⟨some 34, .bslice false 1 1 [(.lit (.int .i64 0))] [(0, 1, (.tmp 33))], none⟩,
               ⟨some 35, .append false 1 8 (.tmp 31) (.tmp 34), none⟩,
               ⟨some 3, .val (.tmp 35), none⟩]) (
             .skip))) (
           .seq (
            .ops [⟨some 37, .bin .eql .num (.tmp 5) (.val (.lit (.int .u8 6))), none⟩,
              ⟨some 36, .val (.tmp 37), none⟩]) (
           .cond (.tmp 36) (
             .seq (
              .seq (
               .ops [⟨some 38, .fieldAddr 2 (.tmp 1), none⟩,
                 ⟨some 39, .iload false 1 (.tmp 38), none⟩,
                 ⟨some 40, .bin .neq .num (.tmp 39) (.val (.lit (.int .i64 (-1)))), none⟩]) (
              .cond (.tmp 40) (
                .ops [⟨some 41, .val (.tmp 3), none⟩,
                  ⟨some 42, .fieldAddr 2 (.tmp 1), none⟩,
                  ⟨some 43, .iload false 1 (.tmp 42), none⟩,
                  ⟨some 44, .bslice false 1 1 [(.lit (.int .i64 0))] [(0, 1, (.tmp 43))], none⟩,
                  ⟨some 45, .append false 1 8 (.tmp 41) (.tmp 44), none⟩,
                  ⟨some 3, .val (.tmp 45), none⟩]) (
                .skip))) (
             .ops [⟨some 46, .val (.tmp 3), none⟩,
               ⟨some 47, .fieldAddr 3 (.tmp 1), none⟩,
               ⟨some 48, .iload false 1 (.tmp 47), none⟩,
               ⟨some 49, .bslice false 1 1 [(.lit (.int .i64 0))] [(0, 1, (.tmp 48))], none⟩,
               ⟨some 50, .append false 1 8 (.tmp 46) (.tmp 49), none⟩,
               ⟨some 3, .val (.tmp 50), none⟩])) (
             .seq (
              .ops [⟨some 52, .bin .eql .num (.tmp 5) (.val (.lit (.int .u8 10))), none⟩,
                ⟨some 51, .val (.tmp 52), none⟩]) (
             .cond (.tmp 51) (
               .ops [⟨some 53, .val (.tmp 3), none⟩,
                 ⟨some 54, .fieldAddr 5 (.tmp 1), none⟩,
                 ⟨some 55, .iload false 1 (.tmp 54), none⟩,
                 ⟨some 56, .append false 1 8 (.tmp 53) (.tmp 55), none⟩,
                 ⟨some 3, .val (.tmp 56), none⟩]) (
               .skip))))))))))))) (
  .seq (
   .ops [⟨some 57, .val (.tmp 3), none⟩,
     ⟨some 2, .val (.tmp 57), none⟩]) (
  .ret))))

theorem c_bobbinref07_Reads : codeOf Tryz.prog { bz := [1], il := [5, 14, 21, 23, 29, 33, 39, 43, 48, 55] } 82 = some (a_bobbinref07_Reads, [.tmp 2], 58) := by kernel_rfl

/-- bobbin/bobbinref07.Writes -/
def a_bobbinref07_Writes : ACode :=
  .seq (
   .ops [⟨some 1, .box true (.tmp 0), none⟩,
     ⟨some 2, .val (.val (.lit (.int .i64 0))), none⟩,
     ⟨some 3, .val (.val (.lit (.bool false))), none⟩]) (
  .seq (
   .seq (
    .ops [⟨some 4, .fieldAddr 0 (.tmp 1), none⟩,
      ⟨some 5, .iload false 1 (.tmp 4), none⟩]) (
   .block 0 (
     .seq (
      .seq (
       .ops [⟨some 7, .bin .eql .num (.tmp 5) (.val (.lit (.int .u8 1))), none⟩,
         ⟨some 6, .val (.tmp 7), none⟩]) (
      .cond (.tmp 6) (
        .skip) (
        .seq (
         .ops [⟨some 8, .bin .eql .num (.tmp 5) (.val (.lit (.int .u8 2))), none⟩,
           ⟨some 6, .val (.tmp 8), none⟩]) (
        .cond (.tmp 6) (
          .skip) (
          .seq (
           .ops [⟨some 9, .bin .eql .num (.tmp 5) (.val (.lit (.int .u8 3))), none⟩,
             ⟨some 6, .val (.tmp 9), none⟩]) (
          .cond (.tmp 6) (
            .skip) (
            .seq (
             .ops [⟨some 10, .bin .eql .num (.tmp 5) (.val (.lit (.int .u8 4))), none⟩,
               ⟨some 6, .val (.tmp 10), none⟩]) (
            .cond (.tmp 6) (
              .skip) (
              .seq (
               .ops [⟨some 11, .bin .eql .num (.tmp 5) (.val (.lit (.int .u8 5))), none⟩,
                 ⟨some 6, .val (.tmp 11), none⟩]) (
              .cond (.tmp 6) (
                .skip) (
                .ops [⟨some 12, .bin .eql .num (.tmp 5) (.val (.lit (.int .u8 10))), none⟩,
                  ⟨some 6, .val (.tmp 12), none⟩]))))))))))) (
     .cond (.tmp 6) (
       .seq (
        .ops [⟨some 13, .fieldAddr 1 (.tmp 1), none⟩,
          ⟨some 14, .iload false 1 (.tmp 13), none⟩,
          ⟨some 2, .val (.tmp 14), none⟩,
          ⟨some 3, .val (.val (.lit (.bool true))), none⟩]) (
       .ret)) (
       .skip))))) (
  .seq (
   .ops [⟨some 2, .val (.val (.lit (.int .i64 0))), none⟩,
     ⟨some 3, .val (.val (.lit (.bool false))), none⟩]) (
  .ret)))

theorem c_bobbinref07_Writes : codeOf Tryz.prog { bz := [1], il := [5, 14] } 83 = some (a_bobbinref07_Writes, [.tmp 2, .tmp 3], 15) := by kernel_rfl

/-- bobbin/bobbinref07.SameIns -/
def a_bobbinref07_SameInsb1 : ACode :=
       .seq (
        .seq (
         .ops [⟨some 48, .val (.tmp 5), none⟩,
           ⟨some 49, .fieldAddr 5 (.tmp 2), none⟩,
           ⟨some 50, .iload false 1 (.tmp 49), none⟩,
           ⟨some 51, .len 1 (.tmp 50), none⟩,
           ⟨some 52, .bin .lss .num (.tmp 48) (.tmp 51), none⟩]) (
        .cond (.tmp 52) (
          .skip) (
          .exit 0))) (
       .seq (
        .block 1 (
          .seq (
           .ops [⟨some 55, .fieldAddr 5 (.tmp 2), none⟩,
             ⟨some 56, .iload false 1 (.tmp 55), none⟩,
             ⟨some 57, .val (.tmp 5), none⟩,
             ⟨some 58, .indexAddr 1 (.tmp 56) (.tmp 57), none⟩,
             ⟨some 60, .fieldAddr 5 (.tmp 3), none⟩,
             ⟨some 61, .iload false 1 (.tmp 60), none⟩,
             ⟨some 62, .val (.tmp 5), none⟩,
             ⟨some 63, .indexAddr 1 (.tmp 61) (.tmp 62), none⟩,
             ⟨some 59, .load false 1 (.tmp 58), none⟩,
             ⟨some 64, .load false 1 (.tmp 63), none⟩,
             ⟨some 65, .bin .neq .num (.tmp 59) (.tmp 64), none⟩]) (
          .cond (.tmp 65) (
            .seq (
             .ops [⟨some 4, .val (.val (.lit (.bool false))), none⟩]) (
            .ret)) (
            .skip)))) (
       .ops [⟨some 53, .val (.tmp 5), none⟩,
         ⟨some 54, .bin .add .num (.tmp 53) (.val (.lit (.int .i64 1))), none⟩,
         ⟨some 5, .val (.tmp 54), none⟩]))

def a_bobbinref07_SameIns : ACode :=
  .seq (
   .ops [⟨some 2, .box true (.tmp 0), none⟩,
     ⟨some 3, .box true (.tmp 1), none⟩,
     ⟨some 4, .val (.val (.lit (.bool false))), none⟩]) (
  .seq (
   .seq (
    .ops [⟨some 6, .fieldAddr 0 (.tmp 2), none⟩,
      ⟨some 7, .iload false 1 (.tmp 6), none⟩,
      ⟨some 8, .fieldAddr 0 (.tmp 3), none⟩,
      ⟨some 9, .iload false 1 (.tmp 8), none⟩,
      ⟨some 10, .bin .neq .num (.tmp 7) (.tmp 9), none⟩,
      ⟨some 11, .val (.tmp 10), none⟩,
      ⟨some 12, .fieldAddr 1 (.tmp 2), some (11, false)⟩,
      ⟨some 13, .iload false 1 (.tmp 12), some (11, false)⟩,
      ⟨some 14, .fieldAddr 1 (.tmp 3), some (11, false)⟩,
      ⟨some 15, .iload false 1 (.tmp 14), some (11, false)⟩,
      ⟨some 16, .bin .neq .num (.tmp 13) (.tmp 15), some (11, false)⟩,
      ⟨some 17, .pick (.tmp 11) (.val (.lit (.bool true))) (.tmp 16), none⟩,
      ⟨some 18, .val (.tmp 17), none⟩,
      ⟨some 19, .fieldAddr 2 (.tmp 2), some (18, false)⟩,
      ⟨some 20, .iload false 1 (.tmp 19), some (18, false)⟩,
      ⟨some 21, .fieldAddr 2 (.tmp 3), some (18, false)⟩,
      ⟨some 22, .iload false 1 (.tmp 21), some (18, false)⟩,
      ⟨some 23, .bin .neq .num (.tmp 20) (.tmp 22), some (18, false)⟩,
      ⟨some 24, .pick (.tmp 18) (.val (.lit (.bool true))) (.tmp 23), none⟩,
      ⟨some 25, .val (.tmp 24), none⟩,
      ⟨some 26, .fieldAddr 3 (.tmp 2), some (25, false)⟩,
      ⟨some 27, .iload false 1 (.tmp 26), some (25, false)⟩,
      ⟨some 28, .fieldAddr 3 (.tmp 3), some (25, false)⟩,
      ⟨some 29, .iload false 1 (.tmp 28), some (25, false)⟩,
      ⟨some 30, .bin .neq .num (.tmp 27) (.tmp 29), some (25, false)⟩,
      ⟨some 31, .pick (.tmp 25) (.val (.lit (.bool true))) (.tmp 30), none⟩,
      ⟨some 32, .val (.tmp 31), none⟩,
      ⟨some 33, .fieldAddr 4 (.tmp 2), some (32, false)⟩,
      ⟨some 34, .iload false 1 (.tmp 33), some (32, false)⟩,
      ⟨some 35, .fieldAddr 4 (.tmp 3), some (32, false)⟩,
      ⟨some 36, .iload false 1 (.tmp 35), some (32, false)⟩,
      ⟨some 37, .bin .neq .num (.tmp 34) (.tmp 36), some (32, false)⟩,
      ⟨some 38, .pick (.tmp 32) (.val (.lit (.bool true))) (.tmp 37), none⟩,
      ⟨some 39, .val (.tmp 38), none⟩,
      ⟨some 40, .fieldAddr 5 (.tmp 2), some (39, false)⟩,
      ⟨some 41, .iload false 1 (.tmp 40), some (39, false)⟩,
      ⟨some 42, .len 1 (.tmp 41), some (39, false)⟩,
      ⟨some 43, .fieldAddr 5 (.tmp 3), some (39, false)⟩,
      ⟨some 44, .iload false 1 (.tmp 43), some (39, false)⟩,
      ⟨some 45, .len 1 (.tmp 44), some (39, false)⟩,
      ⟨some 46, .bin .neq .num (.tmp 42) (.tmp 45), some (39, false)⟩,
      ⟨some 47, .pick (.tmp 39) (.val (.lit (.bool true))) (.tmp 46), none⟩]) (
   .cond (.tmp 47) (
     .seq (
      .ops [⟨some 4, .val (.val (.lit (.bool false))), none⟩]) (
     .ret)) (
     .skip))) (
  .seq (
   .seq (
    .ops [⟨some 5, .val (.val (.lit (.int .i64 0))), none⟩]) (
   .block 0 (
     .loop a_bobbinref07_SameInsb1))) (
  .seq (
   .ops [⟨some 4, .val (.val (.lit (.bool true))), none⟩]) (
  .ret))))

theorem c_bobbinref07_SameIns : codeOf Tryz.prog { bz := [2, 3], il := [7, 9, 13, 15, 20, 22, 27, 29, 34, 36, 41, 44, 50, 56, 61] } 65 = some (a_bobbinref07_SameIns, [.tmp 4], 66) := by kernel_rfl

/-- bobbin/bobbinref07.kept -/
def a_kept_r : ACode :=
   .seq (
    .ops [⟨some 14, .val (.tmp 5), none⟩]) (
   .cond (.tmp 14) (
     .ops [⟨some 15, .fieldAddr 1 (.tmp 1), none⟩,
       ⟨some 16, .iload false 1 (.tmp 15), none⟩,
       ⟨some 17, .fieldAddr 1 (.tmp 3), none⟩,
       ⟨none, .store 1 (.tmp 17) (.tmp 16), none⟩]) (
     .skip))

def a_kept_a : ACode :=
   .seq (
    .ops [⟨some 18, .fieldAddr 0 (.tmp 1), none⟩,
      ⟨some 19, .iload false 1 (.tmp 18), none⟩]) (
   .block 0 (
     .seq (
      .seq (
       .ops [⟨some 21, .bin .eql .num (.tmp 19) (.val (.lit (.int .u8 2))), none⟩,
         ⟨some 20, .val (.tmp 21), none⟩]) (
      .cond (.tmp 20) (
        .skip) (
        .seq (
         .ops [⟨some 22, .bin .eql .num (.tmp 19) (.val (.lit (.int .u8 3))), none⟩,
           ⟨some 20, .val (.tmp 22), none⟩]) (
        .cond (.tmp 20) (
          .skip) (
          .seq (
           .ops [⟨some 23, .bin .eql .num (.tmp 19) (.val (.lit (.int .u8 4))), none⟩,
             ⟨some 20, .val (.tmp 23), none⟩]) (
          .cond (.tmp 20) (
            .skip) (
            .seq (
             .ops [⟨some 24, .bin .eql .num (.tmp 19) (.val (.lit (.int .u8 5))), none⟩,
               ⟨some 20, .val (.tmp 24), none⟩]) (
            .cond (.tmp 20) (
              .skip) (
              .seq (
               .ops [⟨some 25, .bin .eql .num (.tmp 19) (.val (.lit (.int .u8 6))), none⟩,
                 ⟨some 20, .val (.tmp 25), none⟩]) (
              .cond (.tmp 20) (
                .skip) (
                .seq (
                 .ops [⟨some 26, .bin .eql .num (.tmp 19) (.val (.lit (.int .u8 9))), none⟩,
                   ⟨some 20, .val (.tmp 26), none⟩]) (
                .cond (.tmp 20) (
                  .skip) (
                  .seq (
                   .ops [⟨some 27, .bin .eql .num (.tmp 19) (.val (.lit (.int .u8 12))), none⟩,
                     ⟨some 20, .val (.tmp 27), none⟩]) (
                  .cond (.tmp 20) (
                    .skip) (
                    .ops [⟨some 28, .bin .eql .num (.tmp 19) (.val (.lit (.int .u8 13))), none⟩,
                      ⟨some 20, .val (.tmp 28), none⟩]))))))))))))))) (
     .cond (.tmp 20) (
       .ops [⟨some 29, .fieldAddr 2 (.tmp 1), none⟩,
         ⟨some 30, .iload false 1 (.tmp 29), none⟩,
         ⟨some 31, .fieldAddr 2 (.tmp 3), none⟩,
         ⟨none, .store 1 (.tmp 31) (.tmp 30), none⟩]) (
       .skip))))

def a_kept_b : ACode :=
   .seq (
    .ops [⟨some 32, .fieldAddr 0 (.tmp 1), none⟩,
      ⟨some 33, .iload false 1 (.tmp 32), none⟩,
      ⟨some 34, .bin .eql .num (.tmp 33) (.val (.lit (.int .u8 4))), none⟩,
      ⟨some 35, .val (.tmp 34), none⟩,
      ⟨some 36, .fieldAddr 0 (.tmp 1), some (35, false)⟩,
      ⟨some 37, .iload false 1 (.tmp 36), some (35, false)⟩,
      ⟨some 38, .bin .eql .num (.tmp 37) (.val (.lit (.int .u8 6))), some (35, false)⟩,
      ⟨some 39, .pick (.tmp 35) (.val (.lit (.bool true))) (.tmp 38), none⟩]) (
   .cond (.tmp 39) (
     .ops [⟨some 40, .fieldAddr 3 (.tmp 1), none⟩,
       ⟨some 41, .iload false 1 (.tmp 40), none⟩,
       ⟨some 42, .fieldAddr 3 (.tmp 3), none⟩,
       ⟨none, .store 1 (.tmp 42) (.tmp 41), none⟩]) (
     .skip))

def a_kept_n : ACode :=
   .seq (
    .ops [⟨some 43, .fieldAddr 0 (.tmp 1), none⟩,
      ⟨some 44, .iload false 1 (.tmp 43), none⟩,
      ⟨some 45, .bin .neq .num (.tmp 44) (.val (.lit (.int .u8 2))), none⟩,
      ⟨some 46, .val (.tmp 45), none⟩,
      ⟨some 47, .fieldAddr 0 (.tmp 1), some (46, true)⟩,
      ⟨some 48, .iload false 1 (.tmp 47), some (46, true)⟩,
      ⟨some 49, .bin .neq .num (.tmp 48) (.val (.lit (.int .u8 9))), some (46, true)⟩,
      ⟨some 50, .pick (.tmp 46) (.tmp 49) (.val (.lit (.bool false))), none⟩,
      ⟨some 51, .val (.tmp 50), none⟩,
      ⟨some 52, .fieldAddr 0 (.tmp 1), some (51, true)⟩,
      ⟨some 53, .iload false 1 (.tmp 52), some (51, true)⟩,
      ⟨some 54, .bin .neq .num (.tmp 53) (.val (.lit (.int .u8 13))), some (51, true)⟩,
      ⟨some 55, .pick (.tmp 51) (.tmp 54) (.val (.lit (.bool false))), none⟩]) (
   .cond (.tmp 55) (
     .ops [⟨some 56, .fieldAddr 4 (.tmp 1), none⟩,
       ⟨some 57, .iload false 1 (.tmp 56), none⟩,
       ⟨some 58, .fieldAddr 4 (.tmp 3), none⟩,
       ⟨none, .store 1 (.tmp 58) (.tmp 57), none⟩]) (
     .skip))

def a_kept_c : ACode :=
   .seq (
    .ops [⟨some 59, .fieldAddr 0 (.tmp 1), none⟩,
      ⟨some 60, .iload false 1 (.tmp 59), none⟩,
      ⟨some 61, .bin .eql .num (.tmp 60) (.val (.lit (.int .u8 10))), none⟩]) (
   .cond (.tmp 61) (
     .ops [⟨some 62, .fieldAddr 5 (.tmp 1), none⟩,
       ⟨some 63, .iload false 1 (.tmp 62), none⟩,
       ⟨some 64, .fieldAddr 5 (.tmp 3), none⟩,
       ⟨none, .store 1 (.tmp 64) (.tmp 63), none⟩]) (
     .skip))

def a_kept_rest : ACode :=
  .seq a_kept_r (
  .seq a_kept_a (
  .seq a_kept_b (
  .seq a_kept_n (
  .seq a_kept_c (
  .seq (
   .ops [⟨some 65, .load true 6 (.tmp 3), none⟩,
     ⟨none, .store 6 (.tmp 2) (.tmp 65), none⟩]) (
  .ret))))))

def a_bobbinref07_kept : ACode :=
  .seq (
   .ops [⟨some 1, .box true (.tmp 0), none⟩,
     ⟨some 2, .alloc [(.lit (.int .u8 0)), (.lit (.int .i64 0)), (.lit (.int .i64 0)), (.lit (.int .i64 0)), (.lit (.int .i64 0)), (.sl .nil 0 [])], none⟩]) (
  .seq (
   .ops [⟨some 6, .fieldAddr 0 (.tmp 1), none⟩,
     ⟨some 7, .iload false 1 (.tmp 6), none⟩,
     ⟨some 8, .build [(.lit (.int .u8 0)), (.lit (.int .i64 0)), (.lit (.int .i64 0)), (.lit (.int .i64 0)), (.lit (.int .i64 0)), (.sl .nil 0 [])] [(0, 1, (.tmp 7))], none⟩,
     ⟨some 3, .alloc [(.lit (.int .u8 0)), (.lit (.int .i64 0)), (.lit (.int .i64 0)), (.lit (.int .i64 0)), (.lit (.int .i64 0)), (.sl .nil 0 [])], none⟩,
     ⟨none, .store 6 (.tmp 3) (.tmp 8), none⟩]) (
  .seq (
   .ops [⟨some 10, .iload true 6 (.tmp 1), none⟩,
     ⟨some 11, .call (.val (.fn (.func 83) [] [])) [(.tmp 10)], none⟩,
     ⟨some 9, .val (.tmp 11), none⟩,
     ⟨some 12, .extract (.tmp 9) 0, none⟩,
     ⟨some 13, .extract (.tmp 9) 1, none⟩,
     ⟨some 4, .val (.tmp 12), none⟩,
     ⟨some 5, .val (.tmp 13), none⟩]) a_kept_rest))

theorem c_bobbinref07_kept : codeOf Tryz.prog { bz := [1], il := [7, 10, 16, 19, 30, 33, 37, 41, 44, 48, 53, 57, 60, 63] } 81 = some (a_bobbinref07_kept, [.cell 2 6 true], 66) := by kernel_rfl

/-- bobbin/bobbinref07.within -/
def a_bobbinref07_within : ACode :=
  .seq (
   .ops [⟨some 4, .val (.val (.lit (.bool false))), none⟩]) (
  .seq (
   .ops [⟨some 5, .val (.tmp 0), none⟩,
     ⟨some 6, .bin .geq .num (.tmp 5) (.val (.lit (.int .i64 0))), none⟩,
     ⟨some 7, .val (.tmp 6), none⟩,
     ⟨some 8, .val (.tmp 0), some (7, true)⟩,
     ⟨some 9, .val (.tmp 1), some (7, true)⟩,
     ⟨some 10, .bin .lss .num (.tmp 8) (.tmp 9), some (7, true)⟩,
     ⟨some 11, .pick (.tmp 7) (.tmp 10) (.val (.lit (.bool false))), none⟩,
     ⟨some 4, .val (.tmp 11), none⟩]) (
  .ret))

theorem c_bobbinref07_within : codeOf Tryz.prog {  } 84 = some (a_bobbinref07_within, [.tmp 4], 12) := by kernel_rfl

/-- bobbin/bobbinref07.mayIns -/
def a_bobbinref07_mayInsb1 : ACode :=
       .seq (
        .seq (
         .ops [⟨some 40, .val (.tmp 10), none⟩,
           ⟨some 41, .val (.tmp 7), none⟩,
           ⟨some 42, .len 1 (.tmp 41), none⟩,
           ⟨some 43, .bin .lss .num (.tmp 40) (.tmp 42), none⟩]) (
        .cond (.tmp 43) (
          .skip) (
          .exit 0))) (
       .seq (
        .block 1 (
          .seq (
           .ops [⟨some 46, .val (.tmp 7), none⟩,
             ⟨some 47, .val (.tmp 10), none⟩,
             ⟨some 48, .indexAddr 1 (.tmp 46) (.tmp 47), none⟩,
             ⟨some 50, .fieldAddr 3 (.tmp 4), none⟩,
             ⟨some 51, .iload false 1 (.tmp 50), none⟩,
             ⟨some 49, .load false 1 (.tmp 48), none⟩,
             ⟨some 52, .call (.val (.fn (.func 84) [] [])) [(.tmp 49), (.tmp 51)], none⟩,
             ⟨some 53, .un .not (.tmp 52), none⟩]) (
          .cond (.tmp 53) (
            .seq (
             .ops [⟨some 6, .val (.val (.lit (.bool false))), none⟩]) (
            .ret)) (
            .skip)))) (
       .ops [⟨some 44, .val (.tmp 10), none⟩,
         ⟨some 45, .bin .add .num (.tmp 44) (.val (.lit (.int .i64 1))), none⟩,
         ⟨some 10, .val (.tmp 45), none⟩]))

def a_refmay_a : ACode :=
   .seq (
    .ops [⟨some 11, .fieldAddr 0 (.tmp 5), none⟩,
      ⟨some 12, .iload false 1 (.tmp 11), none⟩,
      ⟨some 13, .bin .lss .num (.tmp 12) (.val (.lit (.int .u8 1))), none⟩,
      ⟨some 14, .val (.tmp 13), none⟩,
      ⟨some 15, .fieldAddr 0 (.tmp 5), some (14, false)⟩,
      ⟨some 16, .iload false 1 (.tmp 15), some (14, false)⟩,
      ⟨some 17, .bin .gtr .num (.tmp 16) (.val (.lit (.int .u8 13))), some (14, false)⟩,
      ⟨some 18, .pick (.tmp 14) (.val (.lit (.bool true))) (.tmp 17), none⟩,
      ⟨some 19, .val (.tmp 18), none⟩,
      ⟨some 20, .iload true 6 (.tmp 5), some (19, false)⟩,
      ⟨some 21, .iload true 6 (.tmp 5), some (19, false)⟩,
      ⟨some 22, .call (.val (.fn (.func 81) [] [])) [(.tmp 21)], some (19, false)⟩,
      ⟨some 23, .call (.val (.fn (.func 65) [] [])) [(.tmp 20), (.tmp 22)], some (19, false)⟩,
      ⟨some 24, .un .not (.tmp 23), some (19, false)⟩,
      ⟨some 25, .pick (.tmp 19) (.val (.lit (.bool true))) (.tmp 24), none⟩]) (
   .cond (.tmp 25) (
     .seq (
      .ops [⟨some 6, .val (.val (.lit (.bool false))), none⟩]) (
     .ret)) (
     .skip))

def a_refmay_b : ACode :=
   .seq (
    .ops [⟨some 33, .val (.tmp 9), none⟩]) (
   .cond (.tmp 33) (
     .ops [⟨some 34, .bslice false 1 0 [] [], none⟩,
       ⟨some 35, .val (.tmp 7), none⟩,
       ⟨some 36, .append false 1 8 (.tmp 34) (.tmp 35), none⟩,
       ⟨some 37, .val (.tmp 8), none⟩,
       ⟨some 38, .bslice false 1 1 [(.lit (.int .i64 0))] [(0, 1, (.tmp 37))], none⟩,
       ⟨some 39, .append false 1 8 (.tmp 36) (.tmp 38), none⟩,
       ⟨some 7, .val (.tmp 39), none⟩]) (
     .skip))

def a_refmay_c : ACode :=
   .seq (
    .ops [⟨some 10, .val (.val (.lit (.int .i64 0))), none⟩]) (
   .block 0 (
     .loop a_bobbinref07_mayInsb1))

def a_refmay_d : ACode :=
   .seq (
    .ops [⟨some 54, .fieldAddr 0 (.tmp 5), none⟩,
      ⟨some 55, .iload false 1 (.tmp 54), none⟩]) (
   .block 2 (
     .seq (
      .ops [⟨some 57, .bin .eql .num (.tmp 55) (.val (.lit (.int .u8 3))), none⟩,
        ⟨some 56, .val (.tmp 57), none⟩]) (
     .cond (.tmp 56) (
       .seq (
        .ops [⟨some 58, .fieldAddr 4 (.tmp 5), none⟩,
          ⟨some 59, .iload false 1 (.tmp 58), none⟩,
          ⟨some 60, .bin .eql .num (.tmp 59) (.val (.lit (.int .i64 5))), none⟩,
          ⟨some 61, .val (.tmp 60), none⟩,
          ⟨some 62, .fieldAddr 4 (.tmp 5), some (61, false)⟩,
          ⟨some 63, .iload false 1 (.tmp 62), some (61, false)⟩,
          ⟨some 64, .bin .eql .num (.tmp 63) (.val (.lit (.int .i64 6))), some (61, false)⟩,
          ⟨some 65, .pick (.tmp 61) (.val (.lit (.bool true))) (.tmp 64), none⟩,
          ⟨some 6, .val (.tmp 65), none⟩]) (
       .ret)) (
       .seq (
        .ops [⟨some 67, .bin .eql .num (.tmp 55) (.val (.lit (.int .u8 4))), none⟩,
          ⟨some 66, .val (.tmp 67), none⟩]) (
       .cond (.tmp 66) (
         .seq (
          .ops [⟨some 68, .fieldAddr 4 (.tmp 5), none⟩,
            ⟨some 69, .iload false 1 (.tmp 68), none⟩,
            ⟨some 70, .bin .geq .num (.tmp 69) (.val (.lit (.int .i64 7))), none⟩,
            ⟨some 71, .val (.tmp 70), none⟩,
            ⟨some 72, .fieldAddr 4 (.tmp 5), some (71, true)⟩,
            ⟨some 73, .iload false 1 (.tmp 72), some (71, true)⟩,
            ⟨some 74, .bin .leq .num (.tmp 73) (.val (.lit (.int .i64 17))), some (71, true)⟩,
            ⟨some 75, .pick (.tmp 71) (.tmp 74) (.val (.lit (.bool false))), none⟩,
            ⟨some 6, .val (.tmp 75), none⟩]) (
         .ret)) (
         .seq (
          .seq (
           .ops [⟨some 77, .bin .eql .num (.tmp 55) (.val (.lit (.int .u8 5))), none⟩,
             ⟨some 76, .val (.tmp 77), none⟩]) (
          .cond (.tmp 76) (
            .skip) (
            .ops [⟨some 78, .bin .eql .num (.tmp 55) (.val (.lit (.int .u8 6))), none⟩,
              ⟨some 76, .val (.tmp 78), none⟩]))) (
         .cond (.tmp 76) (
           .seq (
            .ops [⟨some 79, .fieldAddr 4 (.tmp 5), none⟩,
              ⟨some 80, .iload false 1 (.tmp 79), none⟩,
              ⟨some 81, .fieldAddr 0 (.tmp 3), none⟩,
              ⟨some 82, .iload false 1 (.tmp 81), none⟩,
              ⟨some 83, .len 1 (.tmp 82), none⟩,
              ⟨some 84, .call (.val (.fn (.func 84) [] [])) [(.tmp 80), (.tmp 83)], none⟩,
              ⟨some 6, .val (.tmp 84), none⟩]) (
           .ret)) (
           .seq (
            .seq (
             .ops [⟨some 86, .bin .eql .num (.tmp 55) (.val (.lit (.int .u8 7))), none⟩,
               ⟨some 85, .val (.tmp 86), none⟩]) (
            .cond (.tmp 85) (
              .skip) (
              .ops [⟨some 87, .bin .eql .num (.tmp 55) (.val (.lit (.int .u8 8))), none⟩,
                ⟨some 85, .val (.tmp 87), none⟩]))) (
           .cond (.tmp 85) (
             .seq (
              .ops [⟨some 88, .fieldAddr 4 (.tmp 5), none⟩,
                ⟨some 89, .iload false 1 (.tmp 88), none⟩,
                ⟨some 90, .fieldAddr 1 (.tmp 3), none⟩,
                ⟨some 91, .iload false 1 (.tmp 90), none⟩,
                ⟨some 92, .len 1 (.tmp 91), none⟩,
                ⟨some 93, .call (.val (.fn (.func 84) [] [])) [(.tmp 89), (.tmp 92)], none⟩,
                ⟨some 6, .val (.tmp 93), none⟩]) (
             .ret)) (
             .seq (
              .seq (
               .ops [⟨some 95, .bin .eql .num (.tmp 55) (.val (.lit (.int .u8 11))), none⟩,
                 ⟨some 94, .val (.tmp 95), none⟩]) (
              .cond (.tmp 94) (
                .skip) (
                .ops [⟨some 96, .bin .eql .num (.tmp 55) (.val (.lit (.int .u8 12))), none⟩,
                  ⟨some 94, .val (.tmp 96), none⟩]))) (
             .cond (.tmp 94) (
               .seq (
                .ops [⟨some 97, .fieldAddr 4 (.tmp 5), none⟩,
                  ⟨some 98, .iload false 1 (.tmp 97), none⟩,
                  ⟨some 99, .fieldAddr 4 (.tmp 4), none⟩,
                  ⟨some 100, .iload false 1 (.tmp 99), none⟩,
                  ⟨some 101, .len 1 (.tmp 100), none⟩,
                  ⟨some 102, .call (.val (.fn (.func 84) [] [])) [(.tmp 98), (.tmp 101)], none⟩,
                  ⟨some 6, .val (.tmp 102), none⟩]) (
               .ret)) (
               .seq (
                .ops [⟨some 104, .bin .eql .num (.tmp 55) (.val (.lit (.int .u8 10))), none⟩,
                  ⟨some 103, .val (.tmp 104), none⟩]) (
               .cond (.tmp 103) (
                 .seq (
                  .ops [⟨some 105, .fieldAddr 4 (.tmp 5), none⟩,
                    ⟨some 106, .iload false 1 (.tmp 105), none⟩,
                    ⟨some 107, .fieldAddr 2 (.tmp 3), none⟩,
                    ⟨some 108, .iload false 1 (.tmp 107), none⟩,
                    ⟨some 109, .len 1 (.tmp 108), none⟩,
                    ⟨some 110, .call (.val (.fn (.func 84) [] [])) [(.tmp 106), (.tmp 109)], none⟩,
                    ⟨some 111, .val (.tmp 110), none⟩,
                    ⟨some 112, .fieldAddr 2 (.tmp 3), some (111, true)⟩,
                    ⟨some 113, .iload false 1 (.tmp 112), some (111, true)⟩,
                    ⟨some 114, .fieldAddr 4 (.tmp 5), some (111, true)⟩,
                    ⟨some 115, .iload false 1 (.tmp 114), some (111, true)⟩,
                    ⟨some 116, .indexAddr 5 (.tmp 113) (.tmp 115), some (111, true)⟩,
                    ⟨some 117, .fieldAddr 1 (.tmp 116), some (111, true)⟩,
                    ⟨some 118, .load false 1 (.tmp 117), some (111, true)⟩,
                    ⟨some 119, .un .not (.tmp 118), some (111, true)⟩,
                    ⟨some 120, .pick (.tmp 111) (.tmp 119) (.val (.lit (.bool false))), none⟩,
                    ⟨some 121, .val (.tmp 120), none⟩,
                    ⟨some 122, .fieldAddr 5 (.tmp 5), some (121, true)⟩,
                    ⟨some 123, .iload false 1 (.tmp 122), some (121, true)⟩,
                    ⟨some 124, .len 1 (.tmp 123), some (121, true)⟩,
                    ⟨some 125, .fieldAddr 2 (.tmp 3), some (121, true)⟩,
                    ⟨some 126, .iload false 1 (.tmp 125), some (121, true)⟩,
                    ⟨some 127, .fieldAddr 4 (.tmp 5), some (121, true)⟩,
                    ⟨some 128, .iload false 1 (.tmp 127), some (121, true)⟩,
                    ⟨some 129, .indexAddr 5 (.tmp 126) (.tmp 128), some (121, true)⟩,
                    ⟨some 130, .fieldAddr 2 (.tmp 129), some (121, true)⟩,
                    ⟨some 131, .load false 1 (.tmp 130), some (121, true)⟩,
                    ⟨some 132, .bin .eql .num (.tmp 124) (.tmp 131), some (121, true)⟩,
                    ⟨some 133, .pick (.tmp 121) (.tmp 132) (.val (.lit (.bool false))), none⟩,
                    ⟨some 6, .val (.tmp 133), none⟩]) (
                 .ret)) (
                 .skip))))))))))))))

def a_bobbinref07_mayIns : ACode :=
  .seq (
   .ops [⟨some 3, .box true (.tmp 0), none⟩,
     ⟨some 4, .box true (.tmp 1), none⟩,
     ⟨some 5, .box true (.tmp 2), none⟩,
     ⟨some 6, .val (.val (.lit (.bool false))), none⟩]) (
  .seq a_refmay_a (
  .seq (
   .ops [⟨some 26, .iload true 6 (.tmp 5), none⟩,
     ⟨some 27, .call (.val (.fn (.func 82) [] [])) [(.tmp 26)], none⟩,
     ⟨some 7, .val (.tmp 27), none⟩]) (
  .seq (
   .ops [⟨some 29, .iload true 6 (.tmp 5), none⟩,
     ⟨some 30, .call (.val (.fn (.func 83) [] [])) [(.tmp 29)], none⟩,
     ⟨some 28, .val (.tmp 30), none⟩,
     ⟨some 31, .extract (.tmp 28) 0, none⟩,
     ⟨some 32, .extract (.tmp 28) 1, none⟩,
     ⟨some 8, .val (.tmp 31), none⟩,
     ⟨some 9, .val (.tmp 32), none⟩]) (
  .seq a_refmay_b (
  .seq a_refmay_c (
  .seq a_refmay_d (
  .seq (
   .ops [⟨some 6, .val (.val (.lit (.bool true))), none⟩]) (
  .ret))))))))

theorem c_bobbinref07_mayIns : codeOf Tryz.prog { bz := [3, 4, 5], il := [12, 16, 20, 21, 26, 29, 51, 55, 59, 63, 69, 73, 80, 82, 89, 91, 98, 100, 106, 108, 113, 115, 123, 126, 128] } 62 = some (a_bobbinref07_mayIns, [.tmp 6], 134) := by kernel_rfl

end Go.Proofs.YtefejpckppabpaaGreatDoor
