/- The code of functions, compiled (printed by wip/tools/kp.py). -/
import Derived.Test.YtefejpckppabpaaGreatDoorProg
import Derived.Test.YtefejpckppabpaaGreatDoorM3
namespace Go.Proofs.YtefejpckppabpaaGreatDoor
set_option linter.unusedSimpArgs false
set_option linter.unusedVariables false
open Go Go.Fw
/-- bobbin/bytes.known -/
def a_bytes_known : ACode :=
  .seq (
   .ops [⟨some 2, .val (.val (.lit (.bool false))), none⟩]) (
  .seq (
   .ops [⟨some 3, .val (.tmp 0), none⟩,
     ⟨some 4, .bin .geq .num (.tmp 3) (.val (.lit (.int .u8 1))), none⟩,
     ⟨some 5, .val (.tmp 4), none⟩,
     ⟨some 6, .val (.tmp 0), some (5, true)⟩,
     ⟨some 7, .conv .i64 (.tmp 6), some (5, true)⟩,
     ⟨some 8, .bin .lss .num (.tmp 7) (.val (.lit (.int .i64 15))), some (5, true)⟩,
     ⟨some 9, .pick (.tmp 5) (.tmp 8) (.val (.lit (.bool false))), none⟩,
     ⟨some 2, .val (.tmp 9), none⟩]) (
  .ret))

theorem c_bytes_known : codeOf Tryz.prog {  } 24 = some (a_bytes_known, [.tmp 2], 10) := by kernel_rfl

/-- bobbin/bytes.names -/
def a_bytes_names : ACode :=
  .seq (
   .ops [⟨some 3, .box true (.tmp 0), none⟩,
     ⟨some 4, .box true (.tmp 1), none⟩,
     ⟨some 5, .box true (.tmp 2), none⟩,
     ⟨some 6, .val (.val (.lit (.bool false))), none⟩]) (
  .seq (
   .ops [⟨some 8, .mkfn (.func 59) [] [(.tmp 5)], none⟩,
     ⟨some 7, .val (.tmp 8), none⟩]) (
  .seq (
   .seq (
    .ops [⟨some 9, .fieldAddr 0 (.tmp 5), none⟩,
      ⟨some 10, .iload false 1 (.tmp 9), none⟩,
      ⟨some 11, .indexP 3 15 (.glob 0) (.tmp 10), none⟩,
      ⟨some 12, .fieldAddr 0 (.tmp 11), none⟩,
      ⟨some 13, .iload false 1 (.tmp 12), none⟩]) (
   .block 0 (
     .seq (
      .ops [⟨some 15, .bin .eql .num (.tmp 13) (.val (.lit (.int .i64 0))), none⟩,
        ⟨some 14, .val (.tmp 15), none⟩]) (
     .cond (.tmp 14) (
       .seq (
        .ops [⟨some 16, .fieldAddr 1 (.tmp 5), none⟩,
          ⟨some 17, .iload false 1 (.tmp 16), none⟩,
          ⟨some 18, .bin .eql .num (.tmp 17) (.val (.lit (.int .i64 0))), none⟩,
          ⟨some 6, .val (.tmp 18), none⟩]) (
       .ret)) (
       .seq (
        .ops [⟨some 20, .bin .eql .num (.tmp 13) (.val (.lit (.int .i64 2))), none⟩,
          ⟨some 19, .val (.tmp 20), none⟩]) (
       .cond (.tmp 19) (
         .seq (
          .ops [⟨some 21, .val (.tmp 7), none⟩,
            ⟨some 22, .fieldAddr 3 (.tmp 4), none⟩,
            ⟨some 23, .iload false 1 (.tmp 22), none⟩,
            ⟨some 24, .call (.tmp 21) [(.tmp 23)], none⟩,
            ⟨some 6, .val (.tmp 24), none⟩]) (
         .ret)) (
         .seq (
          .ops [⟨some 26, .bin .eql .num (.tmp 13) (.val (.lit (.int .i64 3))), none⟩,
            ⟨some 25, .val (.tmp 26), none⟩]) (
         .cond (.tmp 25) (
           .seq (
            .ops [⟨some 27, .fieldAddr 1 (.tmp 5), none⟩,
              ⟨some 28, .iload false 1 (.tmp 27), none⟩,
              ⟨some 29, .bin .eql .num (.tmp 28) (.val (.lit (.int .i64 5))), none⟩,
              ⟨some 30, .val (.tmp 29), none⟩,
              ⟨some 31, .fieldAddr 1 (.tmp 5), some (30, false)⟩,
              ⟨some 32, .iload false 1 (.tmp 31), some (30, false)⟩,
              ⟨some 33, .bin .eql .num (.tmp 32) (.val (.lit (.int .i64 6))), some (30, false)⟩,
              ⟨some 34, .pick (.tmp 30) (.val (.lit (.bool true))) (.tmp 33), none⟩,
              ⟨some 6, .val (.tmp 34), none⟩]) (
           .ret)) (
           .seq (
            .ops [⟨some 36, .bin .eql .num (.tmp 13) (.val (.lit (.int .i64 4))), none⟩,
              ⟨some 35, .val (.tmp 36), none⟩]) (
           .cond (.tmp 35) (
             .seq (
              .ops [⟨some 37, .fieldAddr 1 (.tmp 5), none⟩,
                ⟨some 38, .iload false 1 (.tmp 37), none⟩,
                ⟨some 39, .bin .geq .num (.tmp 38) (.val (.lit (.int .i64 7))), none⟩,
                ⟨some 40, .val (.tmp 39), none⟩,
                ⟨some 41, .fieldAddr 1 (.tmp 5), some (40, true)⟩,
                ⟨some 42, .iload false 1 (.tmp 41), some (40, true)⟩,
                ⟨some 43, .bin .leq .num (.tmp 42) (.val (.lit (.int .i64 17))), some (40, true)⟩,
                ⟨some 44, .pick (.tmp 40) (.tmp 43) (.val (.lit (.bool false))), none⟩,
                ⟨some 6, .val (.tmp 44), none⟩]) (
             .ret)) (
             .seq (
              .ops [⟨some 46, .bin .eql .num (.tmp 13) (.val (.lit (.int .i64 5))), none⟩,
                ⟨some 45, .val (.tmp 46), none⟩]) (
             .cond (.tmp 45) (
               .seq (
                .ops [⟨some 47, .val (.tmp 7), none⟩,
                  ⟨some 48, .fieldAddr 0 (.tmp 3), none⟩,
                  ⟨some 49, .iload false 1 (.tmp 48), none⟩,
                  ⟨some 50, .len 1 (.tmp 49), none⟩,
                  ⟨some 51, .call (.tmp 47) [(.tmp 50)], none⟩,
                  ⟨some 6, .val (.tmp 51), none⟩]) (
               .ret)) (
               .seq (
                .ops [⟨some 53, .bin .eql .num (.tmp 13) (.val (.lit (.int .i64 6))), none⟩,
                  ⟨some 52, .val (.tmp 53), none⟩]) (
               .cond (.tmp 52) (
                 .seq (
                  .ops [⟨some 54, .val (.tmp 7), none⟩,
                    ⟨some 55, .fieldAddr 1 (.tmp 3), none⟩,
                    ⟨some 56, .iload false 1 (.tmp 55), none⟩,
                    ⟨some 57, .len 1 (.tmp 56), none⟩,
                    ⟨some 58, .call (.tmp 54) [(.tmp 57)], none⟩,
                    ⟨some 6, .val (.tmp 58), none⟩]) (
                 .ret)) (
                 .seq (
                  .ops [⟨some 60, .bin .eql .num (.tmp 13) (.val (.lit (.int .i64 7))), none⟩,
                    ⟨some 59, .val (.tmp 60), none⟩]) (
                 .cond (.tmp 59) (
                   .seq (
                    .ops [⟨some 61, .val (.tmp 7), none⟩,
                      ⟨some 62, .fieldAddr 2 (.tmp 3), none⟩,
                      ⟨some 63, .iload false 1 (.tmp 62), none⟩,
                      ⟨some 64, .len 1 (.tmp 63), none⟩,
                      ⟨some 65, .call (.tmp 61) [(.tmp 64)], none⟩,
                      ⟨some 66, .val (.tmp 65), none⟩,
                      ⟨some 67, .fieldAddr 2 (.tmp 3), some (66, true)⟩,
                      ⟨some 68, .iload false 1 (.tmp 67), some (66, true)⟩,
                      ⟨some 69, .fieldAddr 1 (.tmp 5), some (66, true)⟩,
                      ⟨some 70, .iload false 1 (.tmp 69), some (66, true)⟩,
                      ⟨some 71, .indexAddr 6 (.tmp 68) (.tmp 70), some (66, true)⟩,
                      ⟨some 72, .fieldAddr 1 (.tmp 71), some (66, true)⟩,
                      ⟨some 73, .load false 1 (.tmp 72), some (66, true)⟩,
                      ⟨some 74, .un .not (.tmp 73), some (66, true)⟩,
                      ⟨some 75, .pick (.tmp 66) (.tmp 74) (.val (.lit (.bool false))), none⟩,
                      ⟨some 6, .val (.tmp 75), none⟩]) (
                   .ret)) (
                   .seq (
                    .ops [⟨some 77, .bin .eql .num (.tmp 13) (.val (.lit (.int .i64 8))), none⟩,
                      ⟨some 76, .val (.tmp 77), none⟩]) (
                   .cond (.tmp 76) (
                     .seq (
                      .ops [⟨some 78, .val (.tmp 7), none⟩,
                        ⟨some 79, .fieldAddr 5 (.tmp 4), none⟩,
                        ⟨some 80, .iload false 1 (.tmp 79), none⟩,
                        ⟨some 81, .len 1 (.tmp 80), none⟩,
                        ⟨some 82, .call (.tmp 78) [(.tmp 81)], none⟩,
                        ⟨some 6, .val (.tmp 82), none⟩]) (
                     .ret)) (
                     .skip))))))))))))))))))) (
  .seq (
   .ops [⟨some 6, .val (.val (.lit (.bool true))), none⟩]) (
  .ret))))

theorem c_bytes_names : codeOf Tryz.prog { bz := [3, 4, 5], il := [10, 13, 17, 23, 28, 32, 38, 42, 49, 56, 63, 68, 70, 80] } 25 = some (a_bytes_names, [.tmp 6], 83) := by kernel_rfl

/-- bobbin/bytes.names$1 -/
def a_bytes_names_1 : ACode :=
  .seq (
   .ops [⟨some 3, .val (.val (.lit (.bool false))), none⟩]) (
  .seq (
   .ops [⟨some 4, .fieldAddr 1 (.tmp 1), none⟩,
     ⟨some 5, .load false 1 (.tmp 4), none⟩,
     ⟨some 6, .bin .geq .num (.tmp 5) (.val (.lit (.int .i64 0))), none⟩,
     ⟨some 7, .val (.tmp 6), none⟩,
     ⟨some 8, .fieldAddr 1 (.tmp 1), some (7, true)⟩,
     ⟨some 9, .load false 1 (.tmp 8), some (7, true)⟩,
     ⟨some 10, .val (.tmp 0), some (7, true)⟩,
     ⟨some 11, .bin .lss .num (.tmp 9) (.tmp 10), some (7, true)⟩,
     ⟨some 12, .pick (.tmp 7) (.tmp 11) (.val (.lit (.bool false))), none⟩,
     ⟨some 3, .val (.tmp 12), none⟩]) (
  .ret))

theorem c_bytes_names_1 : codeOf Tryz.prog {  } 59 = some (a_bytes_names_1, [.tmp 3], 13) := by kernel_rfl

/-- bobbin/bytes.pops -/
def a_bytes_pops : ACode :=
  .seq (
   .ops [⟨some 2, .box true (.tmp 0), none⟩,
     ⟨some 3, .box true (.tmp 1), none⟩,
     ⟨some 4, .val (.val (.lit (.int .i64 0))), none⟩]) (
  .seq (
   .seq (
    .ops [⟨some 5, .fieldAddr 0 (.tmp 3), none⟩,
      ⟨some 6, .iload false 1 (.tmp 5), none⟩,
      ⟨some 7, .bin .eql .num (.tmp 6) (.val (.lit (.int .u8 11))), none⟩]) (
   .cond (.tmp 7) (
     .seq (
      .ops [⟨some 8, .fieldAddr 2 (.tmp 2), none⟩,
        ⟨some 9, .iload false 1 (.tmp 8), none⟩,
        ⟨some 10, .fieldAddr 1 (.tmp 3), none⟩,
        ⟨some 11, .iload false 1 (.tmp 10), none⟩,
        ⟨some 12, .indexAddr 6 (.tmp 9) (.tmp 11), none⟩,
        ⟨some 13, .fieldAddr 2 (.tmp 12), none⟩,
        ⟨some 14, .load false 1 (.tmp 13), none⟩,
        ⟨some 4, .val (.tmp 14), none⟩]) (
     .ret)) (
     .skip))) (
  .seq (
   .ops [⟨some 15, .fieldAddr 0 (.tmp 3), none⟩,
     ⟨some 16, .iload false 1 (.tmp 15), none⟩,
     ⟨some 17, .indexP 3 15 (.glob 0) (.tmp 16), none⟩,
     ⟨some 18, .fieldAddr 1 (.tmp 17), none⟩,
     ⟨some 19, .iload false 1 (.tmp 18), none⟩,
     ⟨some 4, .val (.tmp 19), none⟩]) (
  .ret)))

theorem c_bytes_pops : codeOf Tryz.prog { bz := [2, 3], il := [6, 9, 11, 16, 19] } 61 = some (a_bytes_pops, [.tmp 4], 20) := by kernel_rfl

/-- bobbin/bytes.heights -/
def a_bytes_heightsb1 : ACode :=
             .seq (
              .ops [⟨some 98, .bin .lss .num (.tmp 97) (.tmp 96), none⟩]) (
             .seq (
              .cond (.tmp 98) (
                .skip) (
                .exit 2)) (
             .seq (
              .block 3 (
                .seq (
                 .ops [⟨some 99, .indexAddr 1 (.tmp 95) (.tmp 97), none⟩,
                   ⟨some 100, .load false 1 (.tmp 99), none⟩,
                   ⟨some 13, .val (.tmp 100), none⟩]) (
                .seq (
                 .seq (
                  .ops [⟨some 101, .val (.tmp 6), none⟩,
                    ⟨some 102, .val (.tmp 13), none⟩,
                    ⟨some 103, .indexAddr 1 (.tmp 101) (.tmp 102), none⟩,
                    ⟨some 104, .load false 1 (.tmp 103), none⟩,
                    ⟨some 105, .bin .geq .num (.tmp 104) (.val (.lit (.int .i64 0))), none⟩,
                    ⟨some 106, .val (.tmp 105), none⟩,
                    ⟨some 107, .val (.tmp 6), some (106, true)⟩,
                    ⟨some 108, .val (.tmp 13), some (106, true)⟩,
                    ⟨some 109, .indexAddr 1 (.tmp 107) (.tmp 108), some (106, true)⟩,
                    ⟨some 110, .load false 1 (.tmp 109), some (106, true)⟩,
                    ⟨some 111, .val (.tmp 10), some (106, true)⟩,
                    ⟨some 112, .bin .neq .num (.tmp 110) (.tmp 111), some (106, true)⟩,
                    ⟨some 113, .pick (.tmp 106) (.tmp 112) (.val (.lit (.bool false))), none⟩]) (
                 .cond (.tmp 113) (
                   .seq (
                    .ops [⟨some 4, .val (.val (.sl .nil 0 [])), none⟩,
                      ⟨some 5, .val (.val (.lit (.bool false))), none⟩]) (
                   .ret)) (
                   .skip))) (
                .seq (
                 .ops [⟨some 114, .val (.tmp 6), none⟩,
                   ⟨some 115, .val (.tmp 13), none⟩,
                   ⟨some 116, .indexAddr 1 (.tmp 114) (.tmp 115), none⟩,
                   ⟨some 117, .load false 1 (.tmp 116), none⟩,
                   ⟨some 118, .bin .lss .num (.tmp 117) (.val (.lit (.int .i64 0))), none⟩]) (
                .cond (.tmp 118) (
                  .seq (
                   .ops [⟨some 119, .val (.tmp 6), none⟩,
                     ⟨some 120, .val (.tmp 13), none⟩,
                     ⟨some 121, .val (.tmp 10), none⟩,
                     ⟨some 122, .indexAddr 1 (.tmp 119) (.tmp 120), none⟩,
                     ⟨none, .store 1 (.tmp 122) (.tmp 121), none⟩]) (
                  .ops [⟨some 123, .val (.tmp 7), none⟩,
                    ⟨some 124, .val (.tmp 13), none⟩,
                    ⟨some 125, .bslice false 1 1 [(.lit (.int .i64 0))] [(0, 1, (.tmp 124))], none⟩,
                    ⟨some 126, .append false 1 8 (.tmp 123) (.tmp 125), none⟩,
                    ⟨some 7, .val (.tmp 126), none⟩])) (
                  .skip)))))) (
             .ops [⟨some 127, .bin .add .num (.tmp 97) (.val (.lit (.int .i64 1))), none⟩,
               ⟨some 97, .val (.tmp 127), none⟩])))

def a_h_c1 : ACode :=
          .seq (
           .ops [⟨some 49, .val (.tmp 10), none⟩,
             ⟨some 50, .bin .lss .num (.tmp 49) (.val (.lit (.int .i64 0))), none⟩,
             ⟨some 51, .val (.tmp 50), none⟩,
             ⟨some 52, .val (.tmp 6), some (51, false)⟩,
             ⟨some 53, .val (.tmp 8), some (51, false)⟩,
             ⟨some 54, .indexAddr 1 (.tmp 52) (.tmp 53), some (51, false)⟩,
             ⟨some 56, .fieldAddr 4 (.tmp 3), some (51, false)⟩,
             ⟨some 57, .iload false 1 (.tmp 56), some (51, false)⟩,
             ⟨some 55, .load false 1 (.tmp 54), some (51, false)⟩,
             ⟨some 58, .bin .gtr .num (.tmp 55) (.tmp 57), some (51, false)⟩,
             ⟨some 59, .pick (.tmp 51) (.val (.lit (.bool true))) (.tmp 58), none⟩]) (
          .cond (.tmp 59) (
            .seq (
             .ops [⟨some 4, .val (.val (.sl .nil 0 [])), none⟩,
               ⟨some 5, .val (.val (.lit (.bool false))), none⟩]) (
            .ret)) (
            .skip))

def a_h_c2 : ACode :=
          .seq (
           .ops [⟨some 67, .val (.tmp 10), none⟩,
             ⟨some 68, .fieldAddr 4 (.tmp 3), none⟩,
             ⟨some 69, .iload false 1 (.tmp 68), none⟩,
             ⟨some 70, .bin .gtr .num (.tmp 67) (.tmp 69), none⟩]) (
          .cond (.tmp 70) (
            .seq (
             .ops [⟨some 4, .val (.val (.sl .nil 0 [])), none⟩,
               ⟨some 5, .val (.val (.lit (.bool false))), none⟩]) (
            .ret)) (
            .skip))

def a_h_n1 : ACode :=
          .seq (
           .ops [⟨some 71, .fieldAddr 0 (.tmp 9), none⟩,
             ⟨some 72, .load false 1 (.tmp 71), none⟩,
             ⟨some 73, .bin .neq .num (.tmp 72) (.val (.lit (.int .u8 12))), none⟩,
             ⟨some 74, .val (.tmp 73), none⟩,
             ⟨some 75, .fieldAddr 0 (.tmp 9), some (74, true)⟩,
             ⟨some 76, .load false 1 (.tmp 75), some (74, true)⟩,
             ⟨some 77, .bin .neq .num (.tmp 76) (.val (.lit (.int .u8 14))), some (74, true)⟩,
             ⟨some 78, .pick (.tmp 74) (.tmp 77) (.val (.lit (.bool false))), none⟩]) (
          .cond (.tmp 78) (
            .ops [⟨some 79, .val (.tmp 11), none⟩,
              ⟨some 80, .val (.tmp 8), none⟩,
              ⟨some 81, .bin .add .num (.tmp 80) (.val (.lit (.int .i64 1))), none⟩,
              ⟨some 82, .bslice false 1 1 [(.lit (.int .i64 0))] [(0, 1, (.tmp 81))], none⟩,
              ⟨some 83, .append false 1 8 (.tmp 79) (.tmp 82), none⟩,
              ⟨some 11, .val (.tmp 83), none⟩]) (
            .skip))

def a_h_n2 : ACode :=
          .seq (
           .ops [⟨some 84, .fieldAddr 0 (.tmp 9), none⟩,
             ⟨some 85, .load false 1 (.tmp 84), none⟩,
             ⟨some 86, .indexP 3 15 (.glob 0) (.tmp 85), none⟩,
             ⟨some 87, .fieldAddr 0 (.tmp 86), none⟩,
             ⟨some 88, .iload false 1 (.tmp 87), none⟩,
             ⟨some 89, .bin .eql .num (.tmp 88) (.val (.lit (.int .i64 8))), none⟩]) (
          .cond (.tmp 89) (
            .ops [⟨some 90, .val (.tmp 11), none⟩,
              ⟨some 91, .fieldAddr 1 (.tmp 9), none⟩,
              ⟨some 92, .load false 1 (.tmp 91), none⟩,
              ⟨some 93, .bslice false 1 1 [(.lit (.int .i64 0))] [(0, 1, (.tmp 92))], none⟩,
              ⟨some 94, .append false 1 8 (.tmp 90) (.tmp 93), none⟩,
              ⟨some 11, .val (.tmp 94), none⟩]) (
            .skip))

def a_bytes_heightsb2 : ACode :=
       .seq (
        .seq (
         .ops [⟨some 22, .val (.tmp 7), none⟩,
           ⟨some 23, .len 1 (.tmp 22), none⟩,
           ⟨some 24, .bin .gtr .num (.tmp 23) (.val (.lit (.int .i64 0))), none⟩]) (
        .cond (.tmp 24) (
          .skip) (
          .exit 0))) (
       .block 1 (
         .seq (
          .ops [⟨some 25, .val (.tmp 7), none⟩,
            ⟨some 26, .val (.tmp 7), none⟩,
            ⟨some 27, .len 1 (.tmp 26), none⟩,
            ⟨some 28, .bin .sub .num (.tmp 27) (.val (.lit (.int .i64 1))), none⟩,
            ⟨some 29, .indexAddr 1 (.tmp 25) (.tmp 28), none⟩,
            ⟨some 30, .load false 1 (.tmp 29), none⟩,
            ⟨some 8, .val (.tmp 30), none⟩]) (
         .seq (
          .ops [⟨some 31, .val (.tmp 7), none⟩,
            ⟨some 32, .val (.tmp 7), none⟩,
            ⟨some 33, .len 1 (.tmp 32), none⟩,
            ⟨some 34, .bin .sub .num (.tmp 33) (.val (.lit (.int .i64 1))), none⟩,
            ⟨some 35, .slice 1 (.tmp 31) none (some (.tmp 34)) none, none⟩,
            ⟨some 7, .val (.tmp 35), none⟩]) (
         .seq (
          .ops [⟨some 36, .fieldAddr 5 (.tmp 3), none⟩,
            ⟨some 37, .iload false 1 (.tmp 36), none⟩,
            ⟨some 38, .val (.tmp 8), none⟩,
            ⟨some 39, .indexAddr 2 (.tmp 37) (.tmp 38), none⟩,
            ⟨some 40, .load true 2 (.tmp 39), none⟩,
            ⟨some 9, .alloc [(.lit (.int .u8 0)), (.lit (.int .i64 0))], none⟩,
            ⟨none, .store 2 (.tmp 9) (.tmp 40), none⟩]) (
         .seq (
          .ops [⟨some 41, .val (.tmp 6), none⟩,
            ⟨some 42, .val (.tmp 8), none⟩,
            ⟨some 43, .indexAddr 1 (.tmp 41) (.tmp 42), none⟩,
            ⟨some 45, .iload true 3 (.tmp 2), none⟩,
            ⟨some 44, .load false 1 (.tmp 43), none⟩,
            ⟨some 46, .load true 2 (.tmp 9), none⟩,
            ⟨some 47, .pcall (.val (.fn (.func 61) [] [])) [(.tmp 45), (.tmp 46)], none⟩,
            ⟨some 48, .bin .sub .num (.tmp 44) (.tmp 47), none⟩,
            ⟨some 10, .val (.tmp 48), none⟩]) (
         .seq a_h_c1 (
         .seq (
          .ops [⟨some 60, .val (.tmp 10), none⟩,
            ⟨some 61, .fieldAddr 0 (.tmp 9), none⟩,
            ⟨some 62, .load false 1 (.tmp 61), none⟩,
            ⟨some 63, .indexP 3 15 (.glob 0) (.tmp 62), none⟩,
            ⟨some 64, .fieldAddr 2 (.tmp 63), none⟩,
            ⟨some 65, .iload false 1 (.tmp 64), none⟩,
            ⟨some 66, .bin .add .num (.tmp 60) (.tmp 65), none⟩,
            ⟨some 10, .val (.tmp 66), none⟩]) (
         .seq a_h_c2 (
         .seq (
          .ops [⟨some 11, .val (.val (.sl .nil 0 [])), none⟩]) (
         .seq a_h_n1 (
         .seq a_h_n2 (
         .seq (
          .ops [⟨some 95, .val (.tmp 11), none⟩,
            ⟨some 96, .len 1 (.tmp 95), none⟩,
            ⟨some 97, .val (.val (.lit (.int .i64 0))), none⟩]) (
         .block 2 (
           .loop a_bytes_heightsb1))))))))))))))

def a_bytes_heights : ACode :=
  .seq (
   .ops [⟨some 2, .box true (.tmp 0), none⟩,
     ⟨some 3, .box true (.tmp 1), none⟩,
     ⟨some 4, .val (.val (.sl .nil 0 [])), none⟩,
     ⟨some 5, .val (.val (.lit (.bool false))), none⟩]) (
  .seq (
   .ops [⟨some 14, .bslice false 1 1 [(.lit (.int .i64 0))] [(0, 1, (.val (.lit (.int .i64 (-1)))))], none⟩,
     ⟨some 15, .fieldAddr 5 (.tmp 3), none⟩,
     ⟨some 16, .iload false 1 (.tmp 15), none⟩,
     ⟨some 17, .len 1 (.tmp 16), none⟩,
     ⟨some 18, .call (.val (.fn (.func 60) [] [])) [(.tmp 14), (.tmp 17)], none⟩,
     ⟨some 6, .val (.tmp 18), none⟩]) (
  .seq (
   .ops [⟨some 19, .val (.tmp 6), none⟩,
     ⟨some 20, .indexAddr 1 (.tmp 19) (.val (.lit (.int .i64 0))), none⟩,
     ⟨none, .store 1 (.tmp 20) (.val (.lit (.int .i64 0))), none⟩]) (
  .seq (
   .ops [⟨some 21, .bslice true 1 1 [(.lit (.int .i64 0))] [(0, 1, (.val (.lit (.int .i64 0))))], none⟩,
     ⟨some 7, .val (.tmp 21), none⟩]) (
  .seq (
   .block 0 (
     .loop a_bytes_heightsb2)) (
  .seq (
   .ops [⟨some 128, .val (.tmp 6), none⟩,
     ⟨some 4, .val (.tmp 128), none⟩,
     ⟨some 5, .val (.val (.lit (.bool true))), none⟩]) (
  .ret))))))

theorem c_bytes_heights : codeOf Tryz.prog { mu := [21], pc := [47], bz := [2, 3], il := [16, 37, 45, 57, 65, 69, 88] } 26 = some (a_bytes_heights, [.tmp 4, .tmp 5], 129) := by kernel_rfl

/-- slices.Repeat[[]int,int] -/
def a_slices_Repeat_int_intb1 : ACode :=
       .seq (
        .seq (
         .ops [⟨some 34, .val (.tmp 8), none⟩,
           ⟨some 35, .val (.tmp 7), none⟩,
           ⟨some 36, .len 1 (.tmp 35), none⟩,
           ⟨some 37, .bin .lss .num (.tmp 34) (.tmp 36), none⟩]) (
        .cond (.tmp 37) (
          .skip) (
          .exit 0))) (
       .block 1 (
         .ops [⟨some 38, .val (.tmp 8), none⟩,
           ⟨some 39, .val (.tmp 7), none⟩,
           ⟨some 40, .val (.tmp 8), none⟩,
           ⟨some 41, .slice 1 (.tmp 39) (some (.tmp 40)) none none, none⟩,
           ⟨some 42, .val (.tmp 7), none⟩,
           ⟨some 43, .val (.tmp 8), none⟩,
           ⟨some 44, .slice 1 (.tmp 42) none (some (.tmp 43)) none, none⟩,
           ⟨some 45, .copy 1 (.tmp 41) (.tmp 44), none⟩,
           ⟨some 46, .bin .add .num (.tmp 38) (.tmp 45), none⟩,
           ⟨some 8, .val (.tmp 46), none⟩]))

def a_slices_Repeat_int_int : ACode :=
  .seq (
   .ops [⟨some 4, .val (.val (.sl .nil 0 [])), none⟩]) (
  .seq (
   .seq (
    .ops [⟨some 9, .val (.tmp 1), none⟩,
      ⟨some 10, .bin .lss .num (.tmp 9) (.val (.lit (.int .i64 0))), none⟩]) (
   .cond (.tmp 10) (
     .ops [⟨some 11, .mkifc 9 (.val (.lit (.string ⟨#[99, 97, 110, 110, 111, 116, 32, 98, 101, 32, 110, 101, 103, 97, 116, 105, 118, 101]⟩))), none⟩,
       ⟨none, .bad, none⟩]) (
     .skip))) (
  .seq (
   .ops [⟨some 13, .val (.tmp 0), none⟩,
     ⟨some 14, .len 1 (.tmp 13), none⟩,
     ⟨some 15, .conv .u64 (.tmp 14), none⟩,
     ⟨some 16, .val (.tmp 1), none⟩,
     ⟨some 17, .conv .u64 (.tmp 16), none⟩,
     ⟨some 18, .call (.val (.fn (.func 80) [] [])) [(.tmp 15), (.tmp 17)], none⟩,
     ⟨some 12, .val (.tmp 18), none⟩,
     ⟨some 19, .extract (.tmp 12) 0, none⟩,
     ⟨some 20, .extract (.tmp 12) 1, none⟩,
     ⟨some 5, .val (.tmp 19), none⟩,
     ⟨some 6, .val (.tmp 20), none⟩]) (
  .seq (
   .seq (
    .ops [⟨some 21, .val (.tmp 5), none⟩,
      ⟨some 22, .bin .gtr .num (.tmp 21) (.val (.lit (.int .u64 0))), none⟩,
      ⟨some 23, .val (.tmp 22), none⟩,
      ⟨some 24, .val (.tmp 6), some (23, false)⟩,
      ⟨some 25, .bin .gtr .num (.tmp 24) (.val (.lit (.int .u64 9223372036854775807))), some (23, false)⟩,
      ⟨some 26, .pick (.tmp 23) (.val (.lit (.bool true))) (.tmp 25), none⟩]) (
   .cond (.tmp 26) (
     .ops [⟨some 27, .mkifc 9 (.val (.lit (.string ⟨#[116, 104, 101, 32, 114, 101, 115, 117, 108, 116, 32, 111, 102, 32, 40, 108, 101, 110, 40, 120, 41, 32, 42, 32, 99, 111, 117, 110, 116, 41, 32, 111, 118, 101, 114, 102, 108, 111, 119, 115]⟩))), none⟩,
       ⟨none, .bad, none⟩]) (
     .skip))) (
  .seq (
   .ops [⟨some 28, .val (.tmp 6), none⟩,
     ⟨some 29, .conv .i64 (.tmp 28), none⟩,
     ⟨some 30, .mkslice 1 8 [(.lit (.int .i64 0))] (.tmp 29) (.tmp 29), none⟩,
     ⟨some 7, .val (.tmp 30), none⟩]) (
  .seq (
   .ops [⟨some 31, .val (.tmp 7), none⟩,
     ⟨some 32, .val (.tmp 0), none⟩,
     ⟨some 33, .copy 1 (.tmp 31) (.tmp 32), none⟩,
     ⟨some 8, .val (.tmp 33), none⟩]) (
  .seq (
   .block 0 (
     .loop a_slices_Repeat_int_intb1)) (
  .seq (
   .ops [⟨some 47, .val (.tmp 7), none⟩,
     ⟨some 4, .val (.tmp 47), none⟩]) (
  .ret))))))))

theorem c_slices_Repeat_int_int : codeOf Tryz.prog {  } 60 = some (a_slices_Repeat_int_int, [.tmp 4], 48) := by kernel_rfl

/-- math/bits.Mul -/
def a_math_bits_Mul : ACode :=
  .seq (
   .ops [⟨some 4, .val (.val (.lit (.int .u64 0))), none⟩,
     ⟨some 5, .val (.val (.lit (.int .u64 0))), none⟩]) (
  .seq (
   .cond (.val (.lit (.bool false))) (
     .seq (
      .ops [⟨some 11, .val (.tmp 0), none⟩,
        ⟨some 12, .conv .u32 (.tmp 11), none⟩,
        ⟨some 13, .val (.tmp 1), none⟩,
        ⟨some 14, .conv .u32 (.tmp 13), none⟩,
        ⟨some 15, .call (.val (.fn (.func 99) [] [])) [(.tmp 12), (.tmp 14)], none⟩,
        ⟨some 10, .val (.tmp 15), none⟩,
        ⟨some 16, .extract (.tmp 10) 0, none⟩,
        ⟨some 17, .extract (.tmp 10) 1, none⟩,
        ⟨some 6, .val (.tmp 16), none⟩,
        ⟨some 7, .val (.tmp 17), none⟩]) (
     .seq (
      .ops [⟨some 18, .val (.tmp 6), none⟩,
        ⟨some 19, .conv .u64 (.tmp 18), none⟩,
        ⟨some 20, .val (.tmp 7), none⟩,
        ⟨some 21, .conv .u64 (.tmp 20), none⟩,
        ⟨some 4, .val (.tmp 19), none⟩,
        ⟨some 5, .val (.tmp 21), none⟩]) (
     .ret))) (
     .skip)) (
  .seq (
   .ops [⟨some 23, .val (.tmp 0), none⟩,
     ⟨some 24, .val (.tmp 1), none⟩,
     ⟨some 25, .call (.val (.fn (.func 100) [] [])) [(.tmp 23), (.tmp 24)], none⟩,
     ⟨some 22, .val (.tmp 25), none⟩,
     ⟨some 26, .extract (.tmp 22) 0, none⟩,
     ⟨some 27, .extract (.tmp 22) 1, none⟩,
     ⟨some 8, .val (.tmp 26), none⟩,
     ⟨some 9, .val (.tmp 27), none⟩]) (
  .seq (
   .ops [⟨some 28, .val (.tmp 8), none⟩,
     ⟨some 29, .val (.tmp 9), none⟩,
     ⟨some 4, .val (.tmp 28), none⟩,
     ⟨some 5, .val (.tmp 29), none⟩]) (
  .ret))))

theorem c_math_bits_Mul : codeOf Tryz.prog {  } 80 = some (a_math_bits_Mul, [.tmp 4, .tmp 5], 30) := by kernel_rfl

/-- math/bits.Mul64 -/
def a_math_bits_Mul64 : ACode :=
  .seq (
   .ops [⟨some 4, .val (.val (.lit (.int .u64 0))), none⟩,
     ⟨some 5, .val (.val (.lit (.int .u64 0))), none⟩]) (
  .seq (
   .ops [⟨some 14, .val (.tmp 0), none⟩,
     ⟨some 15, .bin .and .num (.tmp 14) (.val (.lit (.int .u64 4294967295))), none⟩,
     ⟨some 6, .val (.tmp 15), none⟩]) (
  .seq (
   .ops [⟨some 16, .val (.tmp 0), none⟩,
     ⟨some 17, .bin .shr .num (.tmp 16) (.val (.lit (.int .u64 32))), none⟩,
     ⟨some 7, .val (.tmp 17), none⟩]) (
  .seq (
   .ops [⟨some 18, .val (.tmp 1), none⟩,
     ⟨some 19, .bin .and .num (.tmp 18) (.val (.lit (.int .u64 4294967295))), none⟩,
     ⟨some 8, .val (.tmp 19), none⟩]) (
  .seq (
   .ops [⟨some 20, .val (.tmp 1), none⟩,
     ⟨some 21, .bin .shr .num (.tmp 20) (.val (.lit (.int .u64 32))), none⟩,
     ⟨some 9, .val (.tmp 21), none⟩]) (
  .seq (
   .ops [⟨some 22, .val (.tmp 6), none⟩,
     ⟨some 23, .val (.tmp 8), none⟩,
     ⟨some 24, .bin .mul .num (.tmp 22) (.tmp 23), none⟩,
     ⟨some 10, .val (.tmp 24), none⟩]) (
  .seq (
   .ops [⟨some 25, .val (.tmp 7), none⟩,
     ⟨some 26, .val (.tmp 8), none⟩,
     ⟨some 27, .bin .mul .num (.tmp 25) (.tmp 26), none⟩,
     ⟨some 28, .val (.tmp 10), none⟩,
     ⟨some 29, .bin .shr .num (.tmp 28) (.val (.lit (.int .u64 32))), none⟩,
     ⟨some 30, .bin .add .num (.tmp 27) (.tmp 29), none⟩,
     ⟨some 11, .val (.tmp 30), none⟩]) (
  .seq (
   .ops [⟨some 31, .val (.tmp 11), none⟩,
     ⟨some 32, .bin .and .num (.tmp 31) (.val (.lit (.int .u64 4294967295))), none⟩,
     ⟨some 12, .val (.tmp 32), none⟩]) (
  .seq (
   .ops [⟨some 33, .val (.tmp 11), none⟩,
     ⟨some 34, .bin .shr .num (.tmp 33) (.val (.lit (.int .u64 32))), none⟩,
     ⟨some 13, .val (.tmp 34), none⟩]) (
  .seq (
   .ops [⟨some 35, .val (.tmp 12), none⟩,
     ⟨some 36, .val (.tmp 6), none⟩,
     ⟨some 37, .val (.tmp 9), none⟩,
     ⟨some 38, .bin .mul .num (.tmp 36) (.tmp 37), none⟩,
     ⟨some 39, .bin .add .num (.tmp 35) (.tmp 38), none⟩,
     ⟨some 12, .val (.tmp 39), none⟩]) (
  .seq (
   .ops [⟨some 40, .val (.tmp 7), none⟩,
     ⟨some 41, .val (.tmp 9), none⟩,
     ⟨some 42, .bin .mul .num (.tmp 40) (.tmp 41), none⟩,
     ⟨some 43, .val (.tmp 13), none⟩,
     ⟨some 44, .bin .add .num (.tmp 42) (.tmp 43), none⟩,
     ⟨some 45, .val (.tmp 12), none⟩,
     ⟨some 46, .bin .shr .num (.tmp 45) (.val (.lit (.int .u64 32))), none⟩,
     ⟨some 47, .bin .add .num (.tmp 44) (.tmp 46), none⟩,
     ⟨some 4, .val (.tmp 47), none⟩]) (
  .seq (
   .ops [⟨some 48, .val (.tmp 0), none⟩,
     ⟨some 49, .val (.tmp 1), none⟩,
     ⟨some 50, .bin .mul .num (.tmp 48) (.tmp 49), none⟩,
     ⟨some 5, .val (.tmp 50), none⟩]) (
  .ret))))))))))))

theorem c_math_bits_Mul64 : codeOf Tryz.prog {  } 100 = some (a_math_bits_Mul64, [.tmp 4, .tmp 5], 51) := by kernel_rfl

/-- bobbin/bytes.bare -/
def a_bytes_bareb1 : ACode :=
       .seq (
        .ops [⟨some 15, .bin .lss .num (.tmp 14) (.tmp 13), none⟩]) (
       .seq (
        .cond (.tmp 15) (
          .skip) (
          .exit 0)) (
       .seq (
        .block 1 (
          .seq (
           .ops [⟨some 16, .indexAddr 6 (.tmp 12) (.tmp 14), none⟩,
             ⟨some 17, .load true 6 (.tmp 16), none⟩,
             ⟨some 5, .alloc [(.lit (.string ⟨#[]⟩)), (.lit (.bool false)), (.lit (.int .i64 0)), (.lit (.int .i64 0)), (.lit (.int .i64 0)), (.sl .nil 0 [])], none⟩,
             ⟨none, .store 6 (.tmp 5) (.tmp 17), none⟩]) (
          .ops [⟨some 18, .fieldAddr 2 (.tmp 3), none⟩,
            ⟨some 19, .load false 1 (.tmp 18), none⟩,
            ⟨some 20, .fieldAddr 0 (.tmp 5), none⟩,
            ⟨some 21, .load false 1 (.tmp 20), none⟩,
            ⟨some 22, .fieldAddr 1 (.tmp 5), none⟩,
            ⟨some 23, .load false 1 (.tmp 22), none⟩,
            ⟨some 24, .fieldAddr 2 (.tmp 5), none⟩,
            ⟨some 25, .load false 1 (.tmp 24), none⟩,
            ⟨some 26, .fieldAddr 2 (.tmp 5), none⟩,
            ⟨some 27, .load false 1 (.tmp 26), none⟩,
            ⟨some 28, .build [(.lit (.int .u8 0)), (.lit (.int .i64 0)), (.lit (.int .i64 0)), (.lit (.int .i64 0)), (.lit (.int .i64 0)), (.sl .nil 0 [])] [(0, 1, (.val (.lit (.int .u8 11))))], none⟩,
            ⟨some 29, .bslice false 6 1 [(.lit (.int .u8 0)), (.lit (.int .i64 0)), (.lit (.int .i64 0)), (.lit (.int .i64 0)), (.lit (.int .i64 0)), (.sl .nil 0 [])] [(0, 6, (.tmp 28))], none⟩,
            ⟨some 30, .build [(.lit (.string ⟨#[]⟩)), (.lit (.bool false)), (.lit (.int .i64 0)), (.lit (.int .i64 0)), (.sl .nil 0 [])] [(0, 1, (.tmp 21)), (1, 1, (.tmp 23)), (2, 1, (.tmp 25)), (3, 1, (.tmp 27)), (4, 1, (.tmp 29))], none⟩,
            ⟨some 31, .bslice false 5 1 [(.lit (.string ⟨#[]⟩)), (.lit (.bool false)), (.lit (.int .i64 0)), (.lit (.int .i64 0)), (.sl .nil 0 [])] [(0, 5, (.tmp 30))], none⟩,
            ⟨some 32, .append false 5 64 (.tmp 19) (.tmp 31), none⟩,
            ⟨some 33, .fieldAddr 2 (.tmp 3), none⟩,
            ⟨none, .store 1 (.tmp 33) (.tmp 32), none⟩]))) (
       .ops [⟨some 34, .bin .add .num (.tmp 14) (.val (.lit (.int .i64 1))), none⟩,
         ⟨some 14, .val (.tmp 34), none⟩])))

def a_bytes_bare : ACode :=
  .seq (
   .ops [⟨some 1, .box true (.tmp 0), none⟩,
     ⟨some 2, .alloc [(.sl .nil 0 []), (.sl .nil 0 []), (.sl .nil 0 [])], none⟩]) (
  .seq (
   .ops [⟨some 6, .fieldAddr 0 (.tmp 1), none⟩,
     ⟨some 7, .iload false 1 (.tmp 6), none⟩,
     ⟨some 8, .fieldAddr 1 (.tmp 1), none⟩,
     ⟨some 9, .iload false 1 (.tmp 8), none⟩,
     ⟨some 10, .build [(.sl .nil 0 []), (.sl .nil 0 []), (.sl .nil 0 [])] [(0, 1, (.tmp 7)), (1, 1, (.tmp 9))], none⟩,
     ⟨some 3, .alloc [(.sl .nil 0 []), (.sl .nil 0 []), (.sl .nil 0 [])], none⟩,
     ⟨none, .store 3 (.tmp 3) (.tmp 10), none⟩]) (
  .seq (
   .seq (
    .ops [⟨some 11, .fieldAddr 2 (.tmp 1), none⟩,
      ⟨some 12, .iload false 1 (.tmp 11), none⟩,
      ⟨some 13, .len 1 (.tmp 12), none⟩,
      ⟨some 14, .val (.val (.lit (.int .i64 0))), none⟩]) (
   .block 0 (
     .loop a_bytes_bareb1))) (
  .seq (
   .ops [⟨some 35, .load true 3 (.tmp 3), none⟩,
     ⟨none, .store 3 (.tmp 2) (.tmp 35), none⟩]) (
  .ret))))

theorem c_bytes_bare : codeOf Tryz.prog { bz := [1], il := [7, 9, 12] } 21 = some (a_bytes_bare, [.cell 2 3 true], 36) := by kernel_rfl

/-- bobbin/bytes.May -/
def a_bm_h : ACode :=
           .seq (
            .ops [⟨some 23, .fieldAddr 3 (.tmp 4), none⟩,
              ⟨some 24, .load false 1 (.tmp 23), none⟩,
              ⟨some 25, .fieldAddr 2 (.tmp 4), none⟩,
              ⟨some 26, .load false 1 (.tmp 25), none⟩,
              ⟨some 27, .bin .lss .num (.tmp 24) (.tmp 26), none⟩,
              ⟨some 28, .val (.tmp 27), none⟩,
              ⟨some 29, .fieldAddr 3 (.tmp 4), some (28, false)⟩,
              ⟨some 30, .load false 1 (.tmp 29), some (28, false)⟩,
              ⟨some 31, .bin .gtr .num (.tmp 30) (.val (.lit (.int .i64 65536))), some (28, false)⟩,
              ⟨some 32, .pick (.tmp 28) (.val (.lit (.bool true))) (.tmp 31), none⟩,
              ⟨some 33, .val (.tmp 32), none⟩,
              ⟨some 34, .fieldAddr 4 (.tmp 4), some (33, false)⟩,
              ⟨some 35, .load false 1 (.tmp 34), some (33, false)⟩,
              ⟨some 36, .bin .lss .num (.tmp 35) (.val (.lit (.int .i64 0))), some (33, false)⟩,
              ⟨some 37, .pick (.tmp 33) (.val (.lit (.bool true))) (.tmp 36), none⟩,
              ⟨some 38, .val (.tmp 37), none⟩,
              ⟨some 39, .fieldAddr 4 (.tmp 4), some (38, false)⟩,
              ⟨some 40, .load false 1 (.tmp 39), some (38, false)⟩,
              ⟨some 41, .bin .gtr .num (.tmp 40) (.val (.lit (.int .i64 65536))), some (38, false)⟩,
              ⟨some 42, .pick (.tmp 38) (.val (.lit (.bool true))) (.tmp 41), none⟩,
              ⟨some 43, .val (.tmp 42), none⟩,
              ⟨some 44, .val (.tmp 5), some (43, false)⟩,
              ⟨some 45, .bin .lss .num (.tmp 44) (.val (.lit (.int .i64 1))), some (43, false)⟩,
              ⟨some 46, .pick (.tmp 43) (.val (.lit (.bool true))) (.tmp 45), none⟩,
              ⟨some 47, .val (.tmp 46), none⟩,
              ⟨some 48, .val (.tmp 5), some (47, false)⟩,
              ⟨some 49, .bin .gtr .num (.tmp 48) (.val (.lit (.int .i64 524288))), some (47, false)⟩,
              ⟨some 50, .pick (.tmp 47) (.val (.lit (.bool true))) (.tmp 49), none⟩]) (
           .cond (.tmp 50) (
             .seq (
              .ops [⟨some 2, .val (.val (.lit (.bool false))), none⟩]) (
             .ret)) (
             .skip))

def a_bm_c : ACode :=
           .seq (
            .ops [⟨some 51, .fieldAddr 5 (.tmp 4), none⟩,
              ⟨some 52, .load false 1 (.tmp 51), none⟩,
              ⟨some 53, .mkfn (.func 23) [] [(.tmp 1), (.tmp 4)], none⟩,
              ⟨some 54, .call (.val (.fn (.func 22) [] [])) [(.tmp 52), (.tmp 53)], none⟩]) (
           .cond (.tmp 54) (
             .seq (
              .ops [⟨some 2, .val (.val (.lit (.bool false))), none⟩]) (
             .ret)) (
             .skip))

def a_bm_l : ACode :=
           .seq (
            .ops [⟨some 55, .fieldAddr 5 (.tmp 4), none⟩,
              ⟨some 56, .load false 1 (.tmp 55), none⟩,
              ⟨some 57, .val (.tmp 5), none⟩,
              ⟨some 58, .bin .sub .num (.tmp 57) (.val (.lit (.int .i64 1))), none⟩,
              ⟨some 59, .indexAddr 2 (.tmp 56) (.tmp 58), none⟩,
              ⟨some 60, .fieldAddr 0 (.tmp 59), none⟩,
              ⟨some 61, .load false 1 (.tmp 60), none⟩,
              ⟨some 6, .val (.tmp 61), none⟩]) (
           .seq (
            .ops [⟨some 62, .val (.tmp 6), none⟩,
              ⟨some 63, .bin .neq .num (.tmp 62) (.val (.lit (.int .u8 12))), none⟩,
              ⟨some 64, .val (.tmp 63), none⟩,
              ⟨some 65, .val (.tmp 6), some (64, true)⟩,
              ⟨some 66, .bin .neq .num (.tmp 65) (.val (.lit (.int .u8 14))), some (64, true)⟩,
              ⟨some 67, .pick (.tmp 64) (.tmp 66) (.val (.lit (.bool false))), none⟩]) (
           .cond (.tmp 67) (
             .seq (
              .ops [⟨some 2, .val (.val (.lit (.bool false))), none⟩]) (
             .ret)) (
             .skip)))

def a_bm_g : ACode :=
          .seq (
           .ops [⟨some 69, .iload true 3 (.tmp 1), none⟩,
             ⟨some 70, .load true 6 (.tmp 4), none⟩,
             ⟨some 71, .call (.val (.fn (.func 26) [] [])) [(.tmp 69), (.tmp 70)], none⟩,
             ⟨some 68, .val (.tmp 71), none⟩,
             ⟨some 72, .extract (.tmp 68) 0, none⟩,
             ⟨some 73, .extract (.tmp 68) 1, none⟩,
             ⟨some 7, .val (.tmp 72), none⟩,
             ⟨some 8, .val (.tmp 73), none⟩]) (
          .seq (
           .ops [⟨some 74, .val (.tmp 8), none⟩,
             ⟨some 75, .un .not (.tmp 74), none⟩]) (
          .cond (.tmp 75) (
            .seq (
             .ops [⟨some 2, .val (.val (.lit (.bool false))), none⟩]) (
            .ret)) (
            .skip)))

def a_bytes_Mayb1 : ACode :=
       .seq (
        .ops [⟨some 17, .bin .lss .num (.tmp 16) (.tmp 15), none⟩]) (
       .seq (
        .cond (.tmp 17) (
          .skip) (
          .exit 0)) (
       .seq (
        .block 1 (
          .seq (
           .ops [⟨some 18, .indexAddr 6 (.tmp 14) (.tmp 16), none⟩,
             ⟨some 19, .load true 6 (.tmp 18), none⟩,
             ⟨some 4, .alloc [(.lit (.string ⟨#[]⟩)), (.lit (.bool false)), (.lit (.int .i64 0)), (.lit (.int .i64 0)), (.lit (.int .i64 0)), (.sl .nil 0 [])], none⟩,
             ⟨none, .store 6 (.tmp 4) (.tmp 19), none⟩]) (
          .seq (
           .ops [⟨some 20, .fieldAddr 5 (.tmp 4), none⟩,
             ⟨some 21, .load false 1 (.tmp 20), none⟩,
             ⟨some 22, .len 1 (.tmp 21), none⟩,
             ⟨some 5, .val (.tmp 22), none⟩]) (
          .seq a_bm_h (
          .seq a_bm_c (
          .seq a_bm_l a_bm_g)))))) (
       .ops [⟨some 76, .bin .add .num (.tmp 16) (.val (.lit (.int .i64 1))), none⟩,
         ⟨some 16, .val (.tmp 76), none⟩])))

def a_bytes_May : ACode :=
  .seq (
   .ops [⟨some 1, .box true (.tmp 0), none⟩,
     ⟨some 2, .val (.val (.lit (.bool false))), none⟩]) (
  .seq (
   .seq (
    .ops [⟨some 9, .iload true 3 (.tmp 1), none⟩,
      ⟨some 10, .call (.val (.fn (.func 21) [] [])) [(.tmp 9)], none⟩,
      ⟨some 11, .call (.val (.fn (.func 20) [] [])) [(.tmp 10)], none⟩,
      ⟨some 12, .un .not (.tmp 11), none⟩]) (
   .cond (.tmp 12) (
     .seq (
      .ops [⟨some 2, .val (.val (.lit (.bool false))), none⟩]) (
     .ret)) (
     .skip))) (
  .seq (
   .seq (
    .ops [⟨some 13, .fieldAddr 2 (.tmp 1), none⟩,
      ⟨some 14, .iload false 1 (.tmp 13), none⟩,
      ⟨some 15, .len 1 (.tmp 14), none⟩,
      ⟨some 16, .val (.val (.lit (.int .i64 0))), none⟩]) (
   .block 0 (
     .loop a_bytes_Mayb1))) (
  .seq (
   .ops [⟨some 2, .val (.val (.lit (.bool true))), none⟩]) (
  .ret))))

theorem c_bytes_May : codeOf Tryz.prog { bz := [1], il := [9, 14, 69] } 7 = some (a_bytes_May, [.tmp 2], 77) := by kernel_rfl

/-- bobbin/bytes.May$1 -/
def a_bytes_May_1 : ACode :=
  .seq (
   .ops [⟨some 3, .box true (.tmp 0), none⟩,
     ⟨some 4, .val (.val (.lit (.bool false))), none⟩]) (
  .seq (
   .ops [⟨some 5, .fieldAddr 0 (.tmp 3), none⟩,
     ⟨some 6, .iload false 1 (.tmp 5), none⟩,
     ⟨some 7, .call (.val (.fn (.func 24) [] [])) [(.tmp 6)], none⟩,
     ⟨some 8, .un .not (.tmp 7), none⟩,
     ⟨some 9, .val (.tmp 8), none⟩,
     ⟨some 10, .load true 3 (.tmp 1), some (9, false)⟩,
     ⟨some 11, .load true 6 (.tmp 2), some (9, false)⟩,
     ⟨some 12, .iload true 2 (.tmp 3), some (9, false)⟩,
     ⟨some 13, .call (.val (.fn (.func 25) [] [])) [(.tmp 10), (.tmp 11), (.tmp 12)], some (9, false)⟩,
     ⟨some 14, .un .not (.tmp 13), some (9, false)⟩,
     ⟨some 15, .pick (.tmp 9) (.val (.lit (.bool true))) (.tmp 14), none⟩,
     ⟨some 4, .val (.tmp 15), none⟩]) (
  .ret))

theorem c_bytes_May_1 : codeOf Tryz.prog { bz := [3], il := [6, 12] } 23 = some (a_bytes_May_1, [.tmp 4], 16) := by kernel_rfl

/-- slices.ContainsFunc[[]bobbin/api.Op,bobbin/api.Op] -/
def a_slices_ContainsFunc_api_Op_api_Op : ACode :=
  .seq (
   .ops [⟨some 4, .val (.val (.lit (.bool false))), none⟩]) (
  .seq (
   .ops [⟨some 5, .val (.tmp 0), none⟩,
     ⟨some 6, .val (.tmp 1), none⟩,
     ⟨some 7, .call (.val (.fn (.func 58) [] [])) [(.tmp 5), (.tmp 6)], none⟩,
     ⟨some 8, .bin .geq .num (.tmp 7) (.val (.lit (.int .i64 0))), none⟩,
     ⟨some 4, .val (.tmp 8), none⟩]) (
  .ret))

theorem c_slices_ContainsFunc_api_Op_api_Op : codeOf Tryz.prog {  } 22 = some (a_slices_ContainsFunc_api_Op_api_Op, [.tmp 4], 9) := by kernel_rfl

/-- slices.IndexFunc[[]bobbin/api.Op,bobbin/api.Op] -/
def a_slices_IndexFunc_api_Op_api_Opb1 : ACode :=
       .seq (
        .ops [⟨some 9, .bin .lss .num (.tmp 8) (.tmp 7), none⟩]) (
       .seq (
        .cond (.tmp 9) (
          .skip) (
          .exit 0)) (
       .seq (
        .block 1 (
          .seq (
           .ops [⟨some 10, .val (.tmp 8), none⟩,
             ⟨some 5, .val (.tmp 10), none⟩]) (
          .seq (
           .ops [⟨some 11, .val (.tmp 1), none⟩,
             ⟨some 12, .val (.tmp 0), none⟩,
             ⟨some 13, .val (.tmp 5), none⟩,
             ⟨some 14, .indexAddr 2 (.tmp 12) (.tmp 13), none⟩,
             ⟨some 15, .load true 2 (.tmp 14), none⟩,
             ⟨some 16, .call (.tmp 11) [(.tmp 15)], none⟩]) (
          .cond (.tmp 16) (
            .seq (
             .ops [⟨some 17, .val (.tmp 5), none⟩,
               ⟨some 4, .val (.tmp 17), none⟩]) (
            .ret)) (
            .skip))))) (
       .ops [⟨some 18, .bin .add .num (.tmp 8) (.val (.lit (.int .i64 1))), none⟩,
         ⟨some 8, .val (.tmp 18), none⟩])))

def a_slices_IndexFunc_api_Op_api_Op : ACode :=
  .seq (
   .ops [⟨some 4, .val (.val (.lit (.int .i64 0))), none⟩]) (
  .seq (
   .seq (
    .ops [⟨some 6, .val (.tmp 0), none⟩,
      ⟨some 7, .len 1 (.tmp 6), none⟩,
      ⟨some 8, .val (.val (.lit (.int .i64 0))), none⟩]) (
   .block 0 (
     .loop a_slices_IndexFunc_api_Op_api_Opb1))) (
  .seq (
   .ops [⟨some 4, .val (.val (.lit (.int .i64 (-1)))), none⟩]) (
  .ret)))

theorem c_slices_IndexFunc_api_Op_api_Op : codeOf Tryz.prog {  } 58 = some (a_slices_IndexFunc_api_Op_api_Op, [.tmp 4], 19) := by kernel_rfl

/-- bobbin/bytes.Heights -/
def a_bytes_Heights : ACode :=
  .seq (
   .ops [⟨some 2, .box true (.tmp 0), none⟩,
     ⟨some 4, .val (.val (.sl .nil 0 [])), none⟩,
     ⟨some 5, .val (.val (.lit (.int .i64 0))), none⟩]) (
  .seq (
   .seq (
    .ops [⟨some 8, .iload true 3 (.tmp 2), none⟩,
      ⟨some 9, .call (.val (.fn (.func 7) [] [])) [(.tmp 8)], none⟩,
      ⟨some 10, .un .not (.tmp 9), none⟩,
      ⟨some 11, .val (.tmp 10), none⟩,
      ⟨some 12, .val (.tmp 1), some (11, false)⟩,
      ⟨some 13, .bin .lss .num (.tmp 12) (.val (.lit (.int .i64 0))), some (11, false)⟩,
      ⟨some 14, .pick (.tmp 11) (.val (.lit (.bool true))) (.tmp 13), none⟩,
      ⟨some 15, .val (.tmp 14), none⟩,
      ⟨some 16, .val (.tmp 1), some (15, false)⟩,
      ⟨some 17, .fieldAddr 2 (.tmp 2), some (15, false)⟩,
      ⟨some 18, .iload false 1 (.tmp 17), some (15, false)⟩,
      ⟨some 19, .len 1 (.tmp 18), some (15, false)⟩,
      ⟨some 20, .bin .geq .num (.tmp 16) (.tmp 19), some (15, false)⟩,
      ⟨some 21, .pick (.tmp 15) (.val (.lit (.bool true))) (.tmp 20), none⟩]) (
   .cond (.tmp 21) (
     .seq (
      .ops [⟨some 4, .val (.val (.sl .nil 0 [])), none⟩,
        ⟨some 5, .val (.val (.lit (.int .i64 4))), none⟩]) (
     .ret)) (
     .skip))) (
  .seq (
   .ops [⟨some 23, .iload true 3 (.tmp 2), none⟩,
     ⟨some 24, .fieldAddr 2 (.tmp 2), none⟩,
     ⟨some 25, .iload false 1 (.tmp 24), none⟩,
     ⟨some 26, .val (.tmp 1), none⟩,
     ⟨some 27, .indexAddr 6 (.tmp 25) (.tmp 26), none⟩,
     ⟨some 28, .load true 6 (.tmp 27), none⟩,
     ⟨some 29, .call (.val (.fn (.func 26) [] [])) [(.tmp 23), (.tmp 28)], none⟩,
     ⟨some 22, .val (.tmp 29), none⟩,
     ⟨some 30, .extract (.tmp 22) 0, none⟩,
     ⟨some 31, .extract (.tmp 22) 1, none⟩,
     ⟨some 6, .val (.tmp 30), none⟩,
     ⟨some 7, .val (.tmp 31), none⟩]) (
  .seq (
   .ops [⟨some 32, .val (.tmp 6), none⟩,
     ⟨some 4, .val (.tmp 32), none⟩,
     ⟨some 5, .val (.val (.lit (.int .i64 0))), none⟩]) (
  .ret))))

theorem c_bytes_Heights : codeOf Tryz.prog { bz := [2], il := [8, 18, 23, 25] } 11 = some (a_bytes_Heights, [.tmp 4, .tmp 5], 33) := by kernel_rfl

/-- bobbin/bytes.Same -/
def a_bytes_Same : ACode :=
  .seq (
   .ops [⟨some 2, .box true (.tmp 0), none⟩,
     ⟨some 3, .box true (.tmp 1), none⟩,
     ⟨some 4, .val (.val (.lit (.bool false))), none⟩]) (
  .seq (
   .ops [⟨some 5, .fieldAddr 0 (.tmp 2), none⟩,
     ⟨some 6, .iload false 1 (.tmp 5), none⟩,
     ⟨some 7, .fieldAddr 0 (.tmp 3), none⟩,
     ⟨some 8, .iload false 1 (.tmp 7), none⟩,
     ⟨some 9, .call (.val (.fn (.func 30) [] [])) [(.tmp 6), (.tmp 8)], none⟩,
     ⟨some 10, .val (.tmp 9), none⟩,
     ⟨some 11, .fieldAddr 1 (.tmp 2), some (10, true)⟩,
     ⟨some 12, .iload false 1 (.tmp 11), some (10, true)⟩,
     ⟨some 13, .fieldAddr 1 (.tmp 3), some (10, true)⟩,
     ⟨some 14, .iload false 1 (.tmp 13), some (10, true)⟩,
     ⟨some 15, .call (.val (.fn (.func 31) [] [])) [(.tmp 12), (.tmp 14)], some (10, true)⟩,
     ⟨some 16, .pick (.tmp 10) (.tmp 15) (.val (.lit (.bool false))), none⟩,
     ⟨some 17, .val (.tmp 16), none⟩,
     ⟨some 18, .fieldAddr 2 (.tmp 2), some (17, true)⟩,
     ⟨some 19, .iload false 1 (.tmp 18), some (17, true)⟩,
     ⟨some 20, .fieldAddr 2 (.tmp 3), some (17, true)⟩,
     ⟨some 21, .iload false 1 (.tmp 20), some (17, true)⟩,
     ⟨some 22, .call (.val (.fn (.func 32) [] [])) [(.tmp 19), (.tmp 21), (.val (.fn (.func 33) [] []))], some (17, true)⟩,
     ⟨some 23, .pick (.tmp 17) (.tmp 22) (.val (.lit (.bool false))), none⟩,
     ⟨some 4, .val (.tmp 23), none⟩]) (
  .ret))

theorem c_bytes_Same : codeOf Tryz.prog { bz := [2, 3], il := [6, 8, 12, 14, 19, 21] } 9 = some (a_bytes_Same, [.tmp 4], 24) := by kernel_rfl

/-- bobbin/bytes.Same$1 -/
def a_bytes_Same_1 : ACode :=
  .seq (
   .ops [⟨some 2, .box true (.tmp 0), none⟩,
     ⟨some 3, .box true (.tmp 1), none⟩,
     ⟨some 4, .val (.val (.lit (.bool false))), none⟩]) (
  .seq (
   .ops [⟨some 5, .fieldAddr 0 (.tmp 2), none⟩,
     ⟨some 6, .iload false 1 (.tmp 5), none⟩,
     ⟨some 7, .fieldAddr 0 (.tmp 3), none⟩,
     ⟨some 8, .iload false 1 (.tmp 7), none⟩,
     ⟨some 9, .bin .eql .num (.tmp 6) (.tmp 8), none⟩,
     ⟨some 10, .val (.tmp 9), none⟩,
     ⟨some 11, .fieldAddr 1 (.tmp 2), some (10, true)⟩,
     ⟨some 12, .iload false 1 (.tmp 11), some (10, true)⟩,
     ⟨some 13, .fieldAddr 1 (.tmp 3), some (10, true)⟩,
     ⟨some 14, .iload false 1 (.tmp 13), some (10, true)⟩,
     ⟨some 15, .bin .eql .bool (.tmp 12) (.tmp 14), some (10, true)⟩,
     ⟨some 16, .pick (.tmp 10) (.tmp 15) (.val (.lit (.bool false))), none⟩,
     ⟨some 17, .val (.tmp 16), none⟩,
     ⟨some 18, .fieldAddr 2 (.tmp 2), some (17, true)⟩,
     ⟨some 19, .iload false 1 (.tmp 18), some (17, true)⟩,
     ⟨some 20, .fieldAddr 2 (.tmp 3), some (17, true)⟩,
     ⟨some 21, .iload false 1 (.tmp 20), some (17, true)⟩,
     ⟨some 22, .bin .eql .num (.tmp 19) (.tmp 21), some (17, true)⟩,
     ⟨some 23, .pick (.tmp 17) (.tmp 22) (.val (.lit (.bool false))), none⟩,
     ⟨some 24, .val (.tmp 23), none⟩,
     ⟨some 25, .fieldAddr 3 (.tmp 2), some (24, true)⟩,
     ⟨some 26, .iload false 1 (.tmp 25), some (24, true)⟩,
     ⟨some 27, .fieldAddr 3 (.tmp 3), some (24, true)⟩,
     ⟨some 28, .iload false 1 (.tmp 27), some (24, true)⟩,
     ⟨some 29, .bin .eql .num (.tmp 26) (.tmp 28), some (24, true)⟩,
     ⟨some 30, .pick (.tmp 24) (.tmp 29) (.val (.lit (.bool false))), none⟩,
     ⟨some 31, .val (.tmp 30), none⟩,
     ⟨some 32, .fieldAddr 4 (.tmp 2), some (31, true)⟩,
     ⟨some 33, .iload false 1 (.tmp 32), some (31, true)⟩,
     ⟨some 34, .fieldAddr 4 (.tmp 3), some (31, true)⟩,
     ⟨some 35, .iload false 1 (.tmp 34), some (31, true)⟩,
     ⟨some 36, .bin .eql .num (.tmp 33) (.tmp 35), some (31, true)⟩,
     ⟨some 37, .pick (.tmp 31) (.tmp 36) (.val (.lit (.bool false))), none⟩,
     ⟨some 38, .val (.tmp 37), none⟩,
     ⟨some 39, .fieldAddr 5 (.tmp 2), some (38, true)⟩,
     ⟨some 40, .iload false 1 (.tmp 39), some (38, true)⟩,
     ⟨some 41, .fieldAddr 5 (.tmp 3), some (38, true)⟩,
     ⟨some 42, .iload false 1 (.tmp 41), some (38, true)⟩,
     ⟨some 43, .call (.val (.fn (.func 34) [] [])) [(.tmp 40), (.tmp 42)], some (38, true)⟩,
     ⟨some 44, .pick (.tmp 38) (.tmp 43) (.val (.lit (.bool false))), none⟩,
     ⟨some 4, .val (.tmp 44), none⟩]) (
  .ret))

theorem c_bytes_Same_1 : codeOf Tryz.prog { bz := [2, 3], il := [6, 8, 12, 14, 19, 21, 26, 28, 33, 35, 40, 42] } 33 = some (a_bytes_Same_1, [.tmp 4], 45) := by kernel_rfl

/-- slices.EqualFunc[[]bobbin/api.Unit,[]bobbin/api.Unit,bobbin/api.Unit,bobbin/api.Unit] -/
def a_slices_EqualFunc_api_Unit_api_Unit_api_Unit_api_Unitb1 : ACode :=
       .seq (
        .ops [⟨some 18, .bin .lss .num (.tmp 17) (.tmp 16), none⟩]) (
       .seq (
        .cond (.tmp 18) (
          .skip) (
          .exit 0)) (
       .seq (
        .block 1 (
          .seq (
           .ops [⟨some 19, .val (.tmp 17), none⟩,
             ⟨some 20, .indexAddr 6 (.tmp 15) (.tmp 17), none⟩,
             ⟨some 21, .load true 6 (.tmp 20), none⟩,
             ⟨some 8, .alloc [(.lit (.string ⟨#[]⟩)), (.lit (.bool false)), (.lit (.int .i64 0)), (.lit (.int .i64 0)), (.lit (.int .i64 0)), (.sl .nil 0 [])], none⟩,
             ⟨some 7, .val (.tmp 19), none⟩,
             ⟨none, .store 6 (.tmp 8) (.tmp 21), none⟩]) (
          .seq (
           .ops [⟨some 22, .val (.tmp 1), none⟩,
             ⟨some 23, .val (.tmp 7), none⟩,
             ⟨some 24, .indexAddr 6 (.tmp 22) (.tmp 23), none⟩,
             ⟨some 25, .load true 6 (.tmp 24), none⟩,
             ⟨some 9, .alloc [(.lit (.string ⟨#[]⟩)), (.lit (.bool false)), (.lit (.int .i64 0)), (.lit (.int .i64 0)), (.lit (.int .i64 0)), (.sl .nil 0 [])], none⟩,
             ⟨none, .store 6 (.tmp 9) (.tmp 25), none⟩]) (
          .seq (
           .ops [⟨some 26, .val (.tmp 2), none⟩,
             ⟨some 27, .load true 6 (.tmp 8), none⟩,
             ⟨some 28, .load true 6 (.tmp 9), none⟩,
             ⟨some 29, .call (.tmp 26) [(.tmp 27), (.tmp 28)], none⟩,
             ⟨some 30, .un .not (.tmp 29), none⟩]) (
          .cond (.tmp 30) (
            .seq (
             .ops [⟨some 6, .val (.val (.lit (.bool false))), none⟩]) (
            .ret)) (
            .skip)))))) (
       .ops [⟨some 31, .bin .add .num (.tmp 17) (.val (.lit (.int .i64 1))), none⟩,
         ⟨some 17, .val (.tmp 31), none⟩])))

def a_slices_EqualFunc_api_Unit_api_Unit_api_Unit_api_Unit : ACode :=
  .seq (
   .ops [⟨some 6, .val (.val (.lit (.bool false))), none⟩]) (
  .seq (
   .seq (
    .ops [⟨some 10, .val (.tmp 0), none⟩,
      ⟨some 11, .len 1 (.tmp 10), none⟩,
      ⟨some 12, .val (.tmp 1), none⟩,
      ⟨some 13, .len 1 (.tmp 12), none⟩,
      ⟨some 14, .bin .neq .num (.tmp 11) (.tmp 13), none⟩]) (
   .cond (.tmp 14) (
     .seq (
      .ops [⟨some 6, .val (.val (.lit (.bool false))), none⟩]) (
     .ret)) (
     .skip))) (
  .seq (
   .seq (
    .ops [⟨some 15, .val (.tmp 0), none⟩,
      ⟨some 16, .len 1 (.tmp 15), none⟩,
      ⟨some 17, .val (.val (.lit (.int .i64 0))), none⟩]) (
   .block 0 (
     .loop a_slices_EqualFunc_api_Unit_api_Unit_api_Unit_api_Unitb1))) (
  .seq (
   .ops [⟨some 6, .val (.val (.lit (.bool true))), none⟩]) (
  .ret))))

theorem c_slices_EqualFunc_api_Unit_api_Unit_api_Unit_api_Unit : codeOf Tryz.prog {  } 32 = some (a_slices_EqualFunc_api_Unit_api_Unit_api_Unit_api_Unit, [.tmp 6], 32) := by kernel_rfl

/-- slices.Equal[[]bobbin/api.Op,bobbin/api.Op] -/
def a_slices_Equal_api_Op_api_Opb1 : ACode :=
       .seq (
        .ops [⟨some 14, .bin .lss .num (.tmp 13) (.tmp 12), none⟩]) (
       .seq (
        .cond (.tmp 14) (
          .skip) (
          .exit 0)) (
       .seq (
        .block 1 (
          .seq (
           .ops [⟨some 15, .val (.tmp 13), none⟩,
             ⟨some 5, .val (.tmp 15), none⟩]) (
          .seq (
           .ops [⟨some 16, .val (.tmp 0), none⟩,
             ⟨some 17, .val (.tmp 5), none⟩,
             ⟨some 18, .indexAddr 2 (.tmp 16) (.tmp 17), none⟩,
             ⟨some 20, .val (.tmp 1), none⟩,
             ⟨some 21, .val (.tmp 5), none⟩,
             ⟨some 22, .indexAddr 2 (.tmp 20) (.tmp 21), none⟩,
             ⟨some 19, .load true 2 (.tmp 18), none⟩,
             ⟨some 23, .load true 2 (.tmp 22), none⟩,
             ⟨some 24, .eqS true [(0, 0), (1, 0)] (.tmp 19) (.tmp 23), none⟩]) (
          .cond (.tmp 24) (
            .seq (
             .ops [⟨some 4, .val (.val (.lit (.bool false))), none⟩]) (
            .ret)) (
            .skip))))) (
       .ops [⟨some 25, .bin .add .num (.tmp 13) (.val (.lit (.int .i64 1))), none⟩,
         ⟨some 13, .val (.tmp 25), none⟩])))

def a_slices_Equal_api_Op_api_Op : ACode :=
  .seq (
   .ops [⟨some 4, .val (.val (.lit (.bool false))), none⟩]) (
  .seq (
   .seq (
    .ops [⟨some 6, .val (.tmp 0), none⟩,
      ⟨some 7, .len 1 (.tmp 6), none⟩,
      ⟨some 8, .val (.tmp 1), none⟩,
      ⟨some 9, .len 1 (.tmp 8), none⟩,
      ⟨some 10, .bin .neq .num (.tmp 7) (.tmp 9), none⟩]) (
   .cond (.tmp 10) (
     .seq (
      .ops [⟨some 4, .val (.val (.lit (.bool false))), none⟩]) (
     .ret)) (
     .skip))) (
  .seq (
   .seq (
    .ops [⟨some 11, .val (.tmp 0), none⟩,
      ⟨some 12, .len 1 (.tmp 11), none⟩,
      ⟨some 13, .val (.val (.lit (.int .i64 0))), none⟩]) (
   .block 0 (
     .loop a_slices_Equal_api_Op_api_Opb1))) (
  .seq (
   .ops [⟨some 4, .val (.val (.lit (.bool true))), none⟩]) (
  .ret))))

theorem c_slices_Equal_api_Op_api_Op : codeOf Tryz.prog {  } 34 = some (a_slices_Equal_api_Op_api_Op, [.tmp 4], 26) := by kernel_rfl

end Go.Proofs.YtefejpckppabpaaGreatDoor
