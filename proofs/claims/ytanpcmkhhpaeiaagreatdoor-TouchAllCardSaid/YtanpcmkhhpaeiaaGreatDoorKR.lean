/- The code of functions, compiled (printed by wip/tools/kp.py). -/
import Derived.Test.YtanpcmkhhpaeiaaGreatDoorProg
import Derived.Test.YtanpcmkhhpaeiaaGreatDoorM3
namespace Go.Proofs.YtanpcmkhhpaeiaaGreatDoor
set_option linter.unusedSimpArgs false
set_option linter.unusedVariables false
open Go Go.Fw
/-- bobbin/bobbinref18.Add -/
def a_bobbinref18_Addb1 : ACode :=
       .seq (
        .seq (
         .ops [⟨some 7, .val (.tmp 5), none⟩,
           ⟨some 8, .val (.tmp 0), none⟩,
           ⟨some 9, .len 1 (.tmp 8), none⟩,
           ⟨some 10, .bin .lss .num (.tmp 7) (.tmp 9), none⟩,
           ⟨some 11, .val (.tmp 10), none⟩,
           ⟨some 12, .val (.tmp 0), some (11, true)⟩,
           ⟨some 13, .val (.tmp 5), some (11, true)⟩,
           ⟨some 14, .indexAddr 1 (.tmp 12) (.tmp 13), some (11, true)⟩,
           ⟨some 15, .load false 1 (.tmp 14), some (11, true)⟩,
           ⟨some 16, .val (.tmp 1), some (11, true)⟩,
           ⟨some 17, .bin .lss .num (.tmp 15) (.tmp 16), some (11, true)⟩,
           ⟨some 18, .pick (.tmp 11) (.tmp 17) (.val (.lit (.bool false))), none⟩]) (
        .cond (.tmp 18) (
          .skip) (
          .exit 0))) (
       .block 1 (
         .ops [⟨some 19, .val (.tmp 5), none⟩,
           ⟨some 20, .bin .add .num (.tmp 19) (.val (.lit (.int .i64 1))), none⟩,
           ⟨some 5, .val (.tmp 20), none⟩]))

def a_add_r : ACode :=
  .seq (
   .seq (
    .ops [⟨some 21, .val (.tmp 5), none⟩,
      ⟨some 22, .val (.tmp 0), none⟩,
      ⟨some 23, .len 1 (.tmp 22), none⟩,
      ⟨some 24, .bin .lss .num (.tmp 21) (.tmp 23), none⟩,
      ⟨some 25, .val (.tmp 24), none⟩,
      ⟨some 26, .val (.tmp 0), some (25, true)⟩,
      ⟨some 27, .val (.tmp 5), some (25, true)⟩,
      ⟨some 28, .indexAddr 1 (.tmp 26) (.tmp 27), some (25, true)⟩,
      ⟨some 29, .load false 1 (.tmp 28), some (25, true)⟩,
      ⟨some 30, .val (.tmp 1), some (25, true)⟩,
      ⟨some 31, .bin .eql .num (.tmp 29) (.tmp 30), some (25, true)⟩,
      ⟨some 32, .pick (.tmp 25) (.tmp 31) (.val (.lit (.bool false))), none⟩]) (
   .cond (.tmp 32) (
     .seq (
      .ops [⟨some 33, .val (.tmp 0), none⟩,
        ⟨some 4, .val (.tmp 33), none⟩]) (
     .ret)) (
     .skip))) (
  .seq (
   .ops [⟨some 34, .bslice false 1 0 [] [], none⟩,
     ⟨some 35, .val (.tmp 0), none⟩,
     ⟨some 36, .val (.tmp 5), none⟩,
     ⟨some 37, .slice 1 (.tmp 35) none (some (.tmp 36)) none, none⟩,
     ⟨some 38, .append false 1 8 (.tmp 34) (.tmp 37), none⟩,
     ⟨some 6, .val (.tmp 38), none⟩]) (
  .seq (
   .ops [⟨some 39, .val (.tmp 6), none⟩,
     ⟨some 40, .val (.tmp 1), none⟩,
     ⟨some 41, .bslice false 1 1 [(.lit (.int .i64 0))] [(0, 1, (.tmp 40))], none⟩,
     ⟨some 42, .append false 1 8 (.tmp 39) (.tmp 41), none⟩,
     ⟨some 6, .val (.tmp 42), none⟩]) (
  .seq (
   .ops [⟨some 43, .val (.tmp 6), none⟩,
     ⟨some 44, .val (.tmp 0), none⟩,
     ⟨some 45, .val (.tmp 5), none⟩,
     ⟨some 46, .slice 1 (.tmp 44) (some (.tmp 45)) none none, none⟩,
     ⟨some 47, .append false 1 8 (.tmp 43) (.tmp 46), none⟩,
     ⟨some 4, .val (.tmp 47), none⟩]) (
  .ret))))

def a_bobbinref18_Add : ACode :=
  .seq (
   .ops [⟨some 4, .val (.val (.sl .nil 0 [])), none⟩]) (
  .seq (
   .ops [⟨some 5, .val (.val (.lit (.int .i64 0))), none⟩]) (
  .seq (
   .block 0 (
     .loop a_bobbinref18_Addb1)) a_add_r))

theorem c_bobbinref18_Add : codeOf Tryz.prog {  } 33 = some (a_bobbinref18_Add, [.tmp 4], 48) := by kernel_rfl

/-- bobbin/bobbinref18.Join -/
def a_bobbinref18_Joinb1 : ACode :=
       .seq (
        .seq (
         .ops [⟨some 20, .val (.tmp 7), none⟩,
           ⟨some 21, .val (.tmp 1), none⟩,
           ⟨some 22, .len 1 (.tmp 21), none⟩,
           ⟨some 23, .bin .lss .num (.tmp 20) (.tmp 22), none⟩]) (
        .cond (.tmp 23) (
          .skip) (
          .exit 2))) (
       .seq (
        .block 3 (
          .ops [⟨some 26, .val (.tmp 5), none⟩,
            ⟨some 27, .val (.tmp 1), none⟩,
            ⟨some 28, .val (.tmp 7), none⟩,
            ⟨some 29, .indexAddr 1 (.tmp 27) (.tmp 28), none⟩,
            ⟨some 30, .load false 1 (.tmp 29), none⟩,
            ⟨some 31, .call (.val (.fn (.func 33) [] [])) [(.tmp 26), (.tmp 30)], none⟩,
            ⟨some 5, .val (.tmp 31), none⟩])) (
       .ops [⟨some 24, .val (.tmp 7), none⟩,
         ⟨some 25, .bin .add .num (.tmp 24) (.val (.lit (.int .i64 1))), none⟩,
         ⟨some 7, .val (.tmp 25), none⟩]))

def a_bobbinref18_Joinb2 : ACode :=
       .seq (
        .seq (
         .ops [⟨some 8, .val (.tmp 6), none⟩,
           ⟨some 9, .val (.tmp 0), none⟩,
           ⟨some 10, .len 1 (.tmp 9), none⟩,
           ⟨some 11, .bin .lss .num (.tmp 8) (.tmp 10), none⟩]) (
        .cond (.tmp 11) (
          .skip) (
          .exit 0))) (
       .seq (
        .block 1 (
          .ops [⟨some 14, .val (.tmp 5), none⟩,
            ⟨some 15, .val (.tmp 0), none⟩,
            ⟨some 16, .val (.tmp 6), none⟩,
            ⟨some 17, .indexAddr 1 (.tmp 15) (.tmp 16), none⟩,
            ⟨some 18, .load false 1 (.tmp 17), none⟩,
            ⟨some 19, .call (.val (.fn (.func 33) [] [])) [(.tmp 14), (.tmp 18)], none⟩,
            ⟨some 5, .val (.tmp 19), none⟩])) (
       .ops [⟨some 12, .val (.tmp 6), none⟩,
         ⟨some 13, .bin .add .num (.tmp 12) (.val (.lit (.int .i64 1))), none⟩,
         ⟨some 6, .val (.tmp 13), none⟩]))

def a_bobbinref18_Join : ACode :=
  .seq (
   .ops [⟨some 4, .val (.val (.sl .nil 0 [])), none⟩]) (
  .seq (
   .ops [⟨some 5, .val (.val (.sl .nil 0 [])), none⟩]) (
  .seq (
   .seq (
    .ops [⟨some 6, .val (.val (.lit (.int .i64 0))), none⟩]) (
   .block 0 (
     .loop a_bobbinref18_Joinb2))) (
  .seq (
   .seq (
    .ops [⟨some 7, .val (.val (.lit (.int .i64 0))), none⟩]) (
   .block 2 (
     .loop a_bobbinref18_Joinb1))) (
  .seq (
   .ops [⟨some 32, .val (.tmp 5), none⟩,
     ⟨some 4, .val (.tmp 32), none⟩]) (
  .ret)))))

theorem c_bobbinref18_Join : codeOf Tryz.prog {  } 35 = some (a_bobbinref18_Join, [.tmp 4], 33) := by kernel_rfl

/-- bobbin/bobbinref18.Own -/
def a_bobbinref18_Ownb1 : ACode :=
       .seq (
        .seq (
         .ops [⟨some 6, .val (.tmp 4), none⟩,
           ⟨some 7, .fieldAddr 4 (.tmp 1), none⟩,
           ⟨some 8, .iload false 1 (.tmp 7), none⟩,
           ⟨some 9, .len 1 (.tmp 8), none⟩,
           ⟨some 10, .bin .lss .num (.tmp 6) (.tmp 9), none⟩]) (
        .cond (.tmp 10) (
          .skip) (
          .exit 0))) (
       .seq (
        .block 1 (
          .seq (
           .ops [⟨some 13, .fieldAddr 4 (.tmp 1), none⟩,
             ⟨some 14, .iload false 1 (.tmp 13), none⟩,
             ⟨some 15, .val (.tmp 4), none⟩,
             ⟨some 16, .indexAddr 6 (.tmp 14) (.tmp 15), none⟩,
             ⟨some 17, .fieldAddr 4 (.tmp 16), none⟩,
             ⟨some 18, .load false 1 (.tmp 17), none⟩,
             ⟨some 5, .val (.tmp 18), none⟩]) (
          .seq (
           .ops [⟨some 19, .fieldAddr 4 (.tmp 1), none⟩,
             ⟨some 20, .iload false 1 (.tmp 19), none⟩,
             ⟨some 21, .val (.tmp 4), none⟩,
             ⟨some 22, .indexAddr 6 (.tmp 20) (.tmp 21), none⟩,
             ⟨some 23, .fieldAddr 0 (.tmp 22), none⟩,
             ⟨some 24, .load false 1 (.tmp 23), none⟩]) (
          .block 2 (
            .seq (
             .ops [⟨some 26, .bin .eql .num (.tmp 24) (.val (.lit (.int .u8 5))), none⟩,
               ⟨some 25, .val (.tmp 26), none⟩]) (
            .cond (.tmp 25) (
              .ops [⟨some 27, .fieldAddr 0 (.tmp 3), none⟩,
                ⟨some 28, .load false 1 (.tmp 27), none⟩,
                ⟨some 29, .val (.tmp 5), none⟩,
                ⟨some 30, .call (.val (.fn (.func 33) [] [])) [(.tmp 28), (.tmp 29)], none⟩,
                ⟨some 31, .fieldAddr 0 (.tmp 3), none⟩,
                ⟨none, .store 1 (.tmp 31) (.tmp 30), none⟩]) (
              .seq (
               .ops [⟨some 33, .bin .eql .num (.tmp 24) (.val (.lit (.int .u8 6))), none⟩,
                 ⟨some 32, .val (.tmp 33), none⟩]) (
              .cond (.tmp 32) (
                .ops [⟨some 34, .fieldAddr 1 (.tmp 3), none⟩,
                  ⟨some 35, .load false 1 (.tmp 34), none⟩,
                  ⟨some 36, .val (.tmp 5), none⟩,
                  ⟨some 37, .call (.val (.fn (.func 33) [] [])) [(.tmp 35), (.tmp 36)], none⟩,
                  ⟨some 38, .fieldAddr 1 (.tmp 3), none⟩,
                  ⟨none, .store 1 (.tmp 38) (.tmp 37), none⟩]) (
                .seq (
                 .ops [⟨some 40, .bin .eql .num (.tmp 24) (.val (.lit (.int .u8 7))), none⟩,
                   ⟨some 39, .val (.tmp 40), none⟩]) (
                .cond (.tmp 39) (
                  .ops [⟨some 41, .fieldAddr 2 (.tmp 3), none⟩,
                    ⟨some 42, .load false 1 (.tmp 41), none⟩,
                    ⟨some 43, .val (.tmp 5), none⟩,
                    ⟨some 44, .call (.val (.fn (.func 33) [] [])) [(.tmp 42), (.tmp 43)], none⟩,
                    ⟨some 45, .fieldAddr 2 (.tmp 3), none⟩,
                    ⟨none, .store 1 (.tmp 45) (.tmp 44), none⟩]) (
                  .seq (
                   .ops [⟨some 47, .bin .eql .num (.tmp 24) (.val (.lit (.int .u8 8))), none⟩,
                     ⟨some 46, .val (.tmp 47), none⟩]) (
                  .cond (.tmp 46) (
                    .ops [⟨some 48, .fieldAddr 3 (.tmp 3), none⟩,
                      ⟨some 49, .load false 1 (.tmp 48), none⟩,
                      ⟨some 50, .val (.tmp 5), none⟩,
                      ⟨some 51, .call (.val (.fn (.func 33) [] [])) [(.tmp 49), (.tmp 50)], none⟩,
                      ⟨some 52, .fieldAddr 3 (.tmp 3), none⟩,
                      ⟨none, .store 1 (.tmp 52) (.tmp 51), none⟩]) (
                    .seq (
                     .ops [⟨some 54, .bin .eql .num (.tmp 24) (.val (.lit (.int .u8 10))), none⟩,
                       ⟨some 53, .val (.tmp 54), none⟩]) (
                    .cond (.tmp 53) (
                      .ops [⟨some 55, .fieldAddr 4 (.tmp 3), none⟩,
                        ⟨some 56, .load false 1 (.tmp 55), none⟩,
                        ⟨some 57, .val (.tmp 5), none⟩,
                        ⟨some 58, .call (.val (.fn (.func 33) [] [])) [(.tmp 56), (.tmp 57)], none⟩,
                        ⟨some 59, .fieldAddr 4 (.tmp 3), none⟩,
                        ⟨none, .store 1 (.tmp 59) (.tmp 58), none⟩]) (
                      .skip))))))))))))))) (
       .ops [⟨some 11, .val (.tmp 4), none⟩,
         ⟨some 12, .bin .add .num (.tmp 11) (.val (.lit (.int .i64 1))), none⟩,
         ⟨some 4, .val (.tmp 12), none⟩]))

def a_bobbinref18_Own : ACode :=
  .seq (
   .ops [⟨some 1, .box true (.tmp 0), none⟩,
     ⟨some 2, .alloc [(.sl .nil 0 []), (.sl .nil 0 []), (.sl .nil 0 []), (.sl .nil 0 []), (.sl .nil 0 [])], none⟩]) (
  .seq (
   .ops [⟨some 3, .alloc [(.sl .nil 0 []), (.sl .nil 0 []), (.sl .nil 0 []), (.sl .nil 0 []), (.sl .nil 0 [])], none⟩]) (
  .seq (
   .seq (
    .ops [⟨some 4, .val (.val (.lit (.int .i64 0))), none⟩]) (
   .block 0 (
     .loop a_bobbinref18_Ownb1))) (
  .seq (
   .ops [⟨some 60, .load true 5 (.tmp 3), none⟩,
     ⟨none, .store 5 (.tmp 2) (.tmp 60), none⟩]) (
  .ret))))

theorem c_bobbinref18_Own : codeOf Tryz.prog { bz := [1], il := [8, 14, 20] } 20 = some (a_bobbinref18_Own, [.cell 2 5 true], 61) := by kernel_rfl

/-- bobbin/bobbinref18.Both -/
def a_bobbinref18_Both : ACode :=
  .seq (
   .ops [⟨some 2, .box true (.tmp 0), none⟩,
     ⟨some 3, .box true (.tmp 1), none⟩,
     ⟨some 4, .alloc [(.sl .nil 0 []), (.sl .nil 0 []), (.sl .nil 0 []), (.sl .nil 0 []), (.sl .nil 0 [])], none⟩]) (
  .seq (
   .ops [⟨some 5, .fieldAddr 0 (.tmp 2), none⟩,
     ⟨some 6, .iload false 1 (.tmp 5), none⟩,
     ⟨some 7, .fieldAddr 0 (.tmp 3), none⟩,
     ⟨some 8, .iload false 1 (.tmp 7), none⟩,
     ⟨some 10, .fieldAddr 1 (.tmp 2), none⟩,
     ⟨some 11, .iload false 1 (.tmp 10), none⟩,
     ⟨some 12, .fieldAddr 1 (.tmp 3), none⟩,
     ⟨some 13, .iload false 1 (.tmp 12), none⟩,
     ⟨some 15, .fieldAddr 2 (.tmp 2), none⟩,
     ⟨some 16, .iload false 1 (.tmp 15), none⟩,
     ⟨some 17, .fieldAddr 2 (.tmp 3), none⟩,
     ⟨some 18, .iload false 1 (.tmp 17), none⟩,
     ⟨some 20, .fieldAddr 3 (.tmp 2), none⟩,
     ⟨some 21, .iload false 1 (.tmp 20), none⟩,
     ⟨some 22, .fieldAddr 3 (.tmp 3), none⟩,
     ⟨some 23, .iload false 1 (.tmp 22), none⟩,
     ⟨some 25, .fieldAddr 4 (.tmp 2), none⟩,
     ⟨some 26, .iload false 1 (.tmp 25), none⟩,
     ⟨some 27, .fieldAddr 4 (.tmp 3), none⟩,
     ⟨some 28, .iload false 1 (.tmp 27), none⟩,
     ⟨some 9, .call (.val (.fn (.func 35) [] [])) [(.tmp 6), (.tmp 8)], none⟩,
     ⟨some 14, .call (.val (.fn (.func 35) [] [])) [(.tmp 11), (.tmp 13)], none⟩,
     ⟨some 19, .call (.val (.fn (.func 35) [] [])) [(.tmp 16), (.tmp 18)], none⟩,
     ⟨some 24, .call (.val (.fn (.func 35) [] [])) [(.tmp 21), (.tmp 23)], none⟩,
     ⟨some 29, .call (.val (.fn (.func 35) [] [])) [(.tmp 26), (.tmp 28)], none⟩,
     ⟨some 30, .build [(.sl .nil 0 []), (.sl .nil 0 []), (.sl .nil 0 []), (.sl .nil 0 []), (.sl .nil 0 [])] [(0, 1, (.tmp 9)), (1, 1, (.tmp 14)), (2, 1, (.tmp 19)), (3, 1, (.tmp 24)), (4, 1, (.tmp 29))], none⟩,
     ⟨none, .store 5 (.tmp 4) (.tmp 30), none⟩]) (
  .ret))

theorem c_bobbinref18_Both : codeOf Tryz.prog { bz := [2, 3], il := [6, 8, 11, 13, 16, 18, 21, 23, 26, 28] } 22 = some (a_bobbinref18_Both, [.cell 4 5 true], 31) := by kernel_rfl

/-- bobbin/bobbinref18.Of -/
def a_bobbinref18_Ofb1 : ACode :=
                      .seq (
                       .seq (
                        .ops [⟨some 35, .val (.tmp 9), none⟩,
                          ⟨some 36, .val (.tmp 8), none⟩,
                          ⟨some 37, .len 1 (.tmp 36), none⟩,
                          ⟨some 38, .bin .lss .num (.tmp 35) (.tmp 37), none⟩]) (
                       .cond (.tmp 38) (
                         .skip) (
                         .exit 4))) (
                      .seq (
                       .block 5 (
                         .ops [⟨some 42, .fieldAddr 2 (.tmp 1), none⟩,
                           ⟨some 43, .iload false 1 (.tmp 42), none⟩,
                           ⟨some 44, .val (.tmp 8), none⟩,
                           ⟨some 45, .val (.tmp 9), none⟩,
                           ⟨some 46, .indexAddr 1 (.tmp 44) (.tmp 45), none⟩,
                           ⟨some 41, .load true 5 (.tmp 6), none⟩,
                           ⟨some 47, .load false 1 (.tmp 46), none⟩,
                           ⟨some 48, .indexAddr 5 (.tmp 43) (.tmp 47), none⟩,
                           ⟨some 49, .load true 5 (.tmp 48), none⟩,
                           ⟨some 50, .kcall (.val (.fn (.func 20) [] [])) [(.tmp 49)], none⟩,
                           ⟨some 51, .call (.val (.fn (.func 22) [] [])) [(.tmp 41), (.tmp 50)], none⟩,
                           ⟨none, .store 5 (.tmp 6) (.tmp 51), none⟩])) (
                      .ops [⟨some 39, .val (.tmp 9), none⟩,
                        ⟨some 40, .bin .add .num (.tmp 39) (.val (.lit (.int .i64 1))), none⟩,
                        ⟨some 9, .val (.tmp 40), none⟩]))

def a_bobbinref18_Ofb2 : ACode :=
               .seq (
                .seq (
                 .ops [⟨some 26, .val (.tmp 7), none⟩,
                   ⟨some 27, .fieldAddr 2 (.tmp 1), none⟩,
                   ⟨some 28, .iload false 1 (.tmp 27), none⟩,
                   ⟨some 29, .len 1 (.tmp 28), none⟩,
                   ⟨some 30, .bin .lss .num (.tmp 26) (.tmp 29), none⟩]) (
                .cond (.tmp 30) (
                  .skip) (
                  .exit 2))) (
               .seq (
                .block 3 (
                  .seq (
                   .ops [⟨some 33, .fieldAddr 4 (.tmp 6), none⟩,
                     ⟨some 34, .load false 1 (.tmp 33), none⟩,
                     ⟨some 8, .val (.tmp 34), none⟩]) (
                  .seq (
                   .ops [⟨some 9, .val (.val (.lit (.int .i64 0))), none⟩]) (
                  .block 4 (
                    .loop a_bobbinref18_Ofb1))))) (
               .ops [⟨some 31, .val (.tmp 7), none⟩,
                 ⟨some 32, .bin .add .num (.tmp 31) (.val (.lit (.int .i64 1))), none⟩,
                 ⟨some 7, .val (.tmp 32), none⟩]))

def a_bobbinref18_Ofb3 : ACode :=
       .seq (
        .seq (
         .ops [⟨some 13, .val (.tmp 5), none⟩,
           ⟨some 14, .fieldAddr 2 (.tmp 1), none⟩,
           ⟨some 15, .iload false 1 (.tmp 14), none⟩,
           ⟨some 16, .len 1 (.tmp 15), none⟩,
           ⟨some 17, .bin .lss .num (.tmp 13) (.tmp 16), none⟩]) (
        .cond (.tmp 17) (
          .skip) (
          .exit 0))) (
       .seq (
        .block 1 (
          .seq (
           .ops [⟨some 20, .fieldAddr 2 (.tmp 1), none⟩,
             ⟨some 21, .iload false 1 (.tmp 20), none⟩,
             ⟨some 22, .val (.tmp 5), none⟩,
             ⟨some 23, .indexAddr 5 (.tmp 21) (.tmp 22), none⟩,
             ⟨some 24, .load true 5 (.tmp 23), none⟩,
             ⟨some 25, .call (.val (.fn (.func 20) [] [])) [(.tmp 24)], none⟩,
             ⟨some 6, .alloc [(.sl .nil 0 []), (.sl .nil 0 []), (.sl .nil 0 []), (.sl .nil 0 []), (.sl .nil 0 [])], none⟩,
             ⟨none, .store 5 (.tmp 6) (.tmp 25), none⟩]) (
          .seq (
           .seq (
            .ops [⟨some 7, .val (.val (.lit (.int .i64 0))), none⟩]) (
           .block 2 (
             .loop a_bobbinref18_Ofb2))) (
          .ops [⟨some 52, .val (.tmp 4), none⟩,
            ⟨some 53, .load true 5 (.tmp 6), none⟩,
            ⟨some 54, .bslice false 5 1 [(.sl .nil 0 []), (.sl .nil 0 []), (.sl .nil 0 []), (.sl .nil 0 []), (.sl .nil 0 [])] [(0, 5, (.tmp 53))], none⟩,
            ⟨some 55, .append false 5 120 (.tmp 52) (.tmp 54), none⟩,
            ⟨some 4, .val (.tmp 55), none⟩])))) (
       .ops [⟨some 18, .val (.tmp 5), none⟩,
         ⟨some 19, .bin .add .num (.tmp 18) (.val (.lit (.int .i64 1))), none⟩,
         ⟨some 5, .val (.tmp 19), none⟩]))

def a_bobbinref18_Of : ACode :=
  .seq (
   .ops [⟨some 1, .box true (.tmp 0), none⟩,
     ⟨some 2, .val (.val (.sl .nil 0 [])), none⟩,
     ⟨some 3, .val (.val (.lit (.int .i64 0))), none⟩]) (
  .seq (
   .seq (
    .ops [⟨some 10, .iload true 3 (.tmp 1), none⟩,
      ⟨some 11, .call (.val (.fn (.func 32) [] [])) [(.tmp 10)], none⟩,
      ⟨some 12, .un .not (.tmp 11), none⟩]) (
   .cond (.tmp 12) (
     .seq (
      .ops [⟨some 2, .val (.val (.sl .nil 0 [])), none⟩,
        ⟨some 3, .val (.val (.lit (.int .i64 4))), none⟩]) (
     .ret)) (
     .skip))) (
  .seq (
   .ops [⟨some 4, .val (.val (.sl .nil 0 [])), none⟩]) (
  .seq (
   .seq (
    .ops [⟨some 5, .val (.val (.lit (.int .i64 0))), none⟩]) (
   .block 0 (
     .loop a_bobbinref18_Ofb3))) (
  .seq (
   .ops [⟨some 56, .val (.tmp 4), none⟩,
     ⟨some 2, .val (.tmp 56), none⟩,
     ⟨some 3, .val (.val (.lit (.int .i64 0))), none⟩]) (
  .ret)))))

theorem c_bobbinref18_Of : codeOf Tryz.prog { kc := [50], bz := [1], il := [10, 15, 21, 28, 43] } 13 = some (a_bobbinref18_Of, [.tmp 2, .tmp 3], 57) := by kernel_rfl

/-- bobbin/bobbinref18.Threads -/
def a_bobbinref18_Threadsb1 : ACode :=
       .seq (
        .seq (
         .ops [⟨some 5, .val (.tmp 4), none⟩,
           ⟨some 6, .fieldAddr 2 (.tmp 1), none⟩,
           ⟨some 7, .iload false 1 (.tmp 6), none⟩,
           ⟨some 8, .len 1 (.tmp 7), none⟩,
           ⟨some 9, .bin .lss .num (.tmp 5) (.tmp 8), none⟩]) (
        .cond (.tmp 9) (
          .skip) (
          .exit 0))) (
       .seq (
        .block 1 (
          .seq (
           .ops [⟨some 12, .fieldAddr 2 (.tmp 1), none⟩,
             ⟨some 13, .iload false 1 (.tmp 12), none⟩,
             ⟨some 14, .val (.tmp 4), none⟩,
             ⟨some 15, .indexAddr 5 (.tmp 13) (.tmp 14), none⟩,
             ⟨some 16, .fieldAddr 1 (.tmp 15), none⟩,
             ⟨some 17, .load false 1 (.tmp 16), none⟩]) (
          .cond (.tmp 17) (
            .ops [⟨some 18, .val (.tmp 3), none⟩,
              ⟨some 19, .val (.tmp 4), none⟩,
              ⟨some 20, .bslice false 1 1 [(.lit (.int .i64 0))] [(0, 1, (.tmp 19))], none⟩,
              ⟨some 21, .append false 1 8 (.tmp 18) (.tmp 20), none⟩,
              ⟨some 3, .val (.tmp 21), none⟩]) (
            .skip)))) (
       .ops [⟨some 10, .val (.tmp 4), none⟩,
         ⟨some 11, .bin .add .num (.tmp 10) (.val (.lit (.int .i64 1))), none⟩,
         ⟨some 4, .val (.tmp 11), none⟩]))

def a_bobbinref18_Threads : ACode :=
  .seq (
   .ops [⟨some 1, .box true (.tmp 0), none⟩,
     ⟨some 2, .val (.val (.sl .nil 0 [])), none⟩]) (
  .seq (
   .ops [⟨some 3, .val (.val (.sl .nil 0 [])), none⟩]) (
  .seq (
   .seq (
    .ops [⟨some 4, .val (.val (.lit (.int .i64 0))), none⟩]) (
   .block 0 (
     .loop a_bobbinref18_Threadsb1))) (
  .seq (
   .ops [⟨some 22, .val (.tmp 3), none⟩,
     ⟨some 2, .val (.tmp 22), none⟩]) (
  .ret))))

theorem c_bobbinref18_Threads : codeOf Tryz.prog { bz := [1], il := [7, 13] } 16 = some (a_bobbinref18_Threads, [.tmp 2], 23) := by kernel_rfl

/-- bobbin/bobbinref18.Same -/
def a_bobbinref18_Same : ACode :=
  .seq (
   .ops [⟨some 2, .box true (.tmp 0), none⟩,
     ⟨some 3, .box true (.tmp 1), none⟩,
     ⟨some 4, .val (.val (.lit (.bool false))), none⟩]) (
  .seq (
   .ops [⟨some 5, .fieldAddr 0 (.tmp 2), none⟩,
     ⟨some 6, .iload false 1 (.tmp 5), none⟩,
     ⟨some 7, .fieldAddr 0 (.tmp 3), none⟩,
     ⟨some 8, .iload false 1 (.tmp 7), none⟩,
     ⟨some 9, .call (.val (.fn (.func 14) [] [])) [(.tmp 6), (.tmp 8)], none⟩,
     ⟨some 10, .val (.tmp 9), none⟩,
     ⟨some 11, .fieldAddr 1 (.tmp 2), some (10, true)⟩,
     ⟨some 12, .iload false 1 (.tmp 11), some (10, true)⟩,
     ⟨some 13, .fieldAddr 1 (.tmp 3), some (10, true)⟩,
     ⟨some 14, .iload false 1 (.tmp 13), some (10, true)⟩,
     ⟨some 15, .call (.val (.fn (.func 14) [] [])) [(.tmp 12), (.tmp 14)], some (10, true)⟩,
     ⟨some 16, .pick (.tmp 10) (.tmp 15) (.val (.lit (.bool false))), none⟩,
     ⟨some 17, .val (.tmp 16), none⟩,
     ⟨some 18, .fieldAddr 2 (.tmp 2), some (17, true)⟩,
     ⟨some 19, .iload false 1 (.tmp 18), some (17, true)⟩,
     ⟨some 20, .fieldAddr 2 (.tmp 3), some (17, true)⟩,
     ⟨some 21, .iload false 1 (.tmp 20), some (17, true)⟩,
     ⟨some 22, .call (.val (.fn (.func 14) [] [])) [(.tmp 19), (.tmp 21)], some (17, true)⟩,
     ⟨some 23, .pick (.tmp 17) (.tmp 22) (.val (.lit (.bool false))), none⟩,
     ⟨some 24, .val (.tmp 23), none⟩,
     ⟨some 25, .fieldAddr 3 (.tmp 2), some (24, true)⟩,
     ⟨some 26, .iload false 1 (.tmp 25), some (24, true)⟩,
     ⟨some 27, .fieldAddr 3 (.tmp 3), some (24, true)⟩,
     ⟨some 28, .iload false 1 (.tmp 27), some (24, true)⟩,
     ⟨some 29, .call (.val (.fn (.func 14) [] [])) [(.tmp 26), (.tmp 28)], some (24, true)⟩,
     ⟨some 30, .pick (.tmp 24) (.tmp 29) (.val (.lit (.bool false))), none⟩,
     ⟨some 31, .val (.tmp 30), none⟩,
     ⟨some 32, .fieldAddr 4 (.tmp 2), some (31, true)⟩,
     ⟨some 33, .iload false 1 (.tmp 32), some (31, true)⟩,
     ⟨some 34, .fieldAddr 4 (.tmp 3), some (31, true)⟩,
     ⟨some 35, .iload false 1 (.tmp 34), some (31, true)⟩,
     ⟨some 36, .call (.val (.fn (.func 14) [] [])) [(.tmp 33), (.tmp 35)], some (31, true)⟩,
     ⟨some 37, .pick (.tmp 31) (.tmp 36) (.val (.lit (.bool false))), none⟩,
     ⟨some 4, .val (.tmp 37), none⟩]) (
  .ret))

theorem c_bobbinref18_Same : codeOf Tryz.prog { bz := [2, 3], il := [6, 8, 12, 14, 19, 21, 26, 28, 33, 35] } 17 = some (a_bobbinref18_Same, [.tmp 4], 38) := by kernel_rfl

/-- bobbin/bobbinref12.Ints -/
def a_bobbinref12_Intsb1 : ACode :=
       .seq (
        .seq (
         .ops [⟨some 11, .val (.tmp 5), none⟩,
           ⟨some 12, .val (.tmp 0), none⟩,
           ⟨some 13, .len 1 (.tmp 12), none⟩,
           ⟨some 14, .bin .lss .num (.tmp 11) (.tmp 13), none⟩]) (
        .cond (.tmp 14) (
          .skip) (
          .exit 0))) (
       .seq (
        .block 1 (
          .seq (
           .ops [⟨some 17, .val (.tmp 0), none⟩,
             ⟨some 18, .val (.tmp 5), none⟩,
             ⟨some 19, .indexAddr 1 (.tmp 17) (.tmp 18), none⟩,
             ⟨some 21, .val (.tmp 1), none⟩,
             ⟨some 22, .val (.tmp 5), none⟩,
             ⟨some 23, .indexAddr 1 (.tmp 21) (.tmp 22), none⟩,
             ⟨some 20, .load false 1 (.tmp 19), none⟩,
             ⟨some 24, .load false 1 (.tmp 23), none⟩,
             ⟨some 25, .bin .neq .num (.tmp 20) (.tmp 24), none⟩]) (
          .cond (.tmp 25) (
            .seq (
             .ops [⟨some 4, .val (.val (.lit (.bool false))), none⟩]) (
            .ret)) (
            .skip)))) (
       .ops [⟨some 15, .val (.tmp 5), none⟩,
         ⟨some 16, .bin .add .num (.tmp 15) (.val (.lit (.int .i64 1))), none⟩,
         ⟨some 5, .val (.tmp 16), none⟩]))

def a_bobbinref12_Ints : ACode :=
  .seq (
   .ops [⟨some 4, .val (.val (.lit (.bool false))), none⟩]) (
  .seq (
   .seq (
    .ops [⟨some 6, .val (.tmp 0), none⟩,
      ⟨some 7, .len 1 (.tmp 6), none⟩,
      ⟨some 8, .val (.tmp 1), none⟩,
      ⟨some 9, .len 1 (.tmp 8), none⟩,
      ⟨some 10, .bin .neq .num (.tmp 7) (.tmp 9), none⟩]) (
   .cond (.tmp 10) (
     .seq (
      .ops [⟨some 4, .val (.val (.lit (.bool false))), none⟩]) (
     .ret)) (
     .skip))) (
  .seq (
   .seq (
    .ops [⟨some 5, .val (.val (.lit (.int .i64 0))), none⟩]) (
   .block 0 (
     .loop a_bobbinref12_Intsb1))) (
  .seq (
   .ops [⟨some 4, .val (.val (.lit (.bool true))), none⟩]) (
  .ret))))

theorem c_bobbinref12_Ints : codeOf Tryz.prog {  } 14 = some (a_bobbinref12_Ints, [.tmp 4], 26) := by kernel_rfl

end Go.Proofs.YtanpcmkhhpaeiaaGreatDoor
