/- The code of functions, compiled (printed by wip/tools/kp.py). -/
import Derived.Test.YtmbbklddjkmcmaaProg
import Derived.Test.YtmbbklddjkmcmaaM3
namespace Go.Proofs.Ytmbbklddjkmcmaa
set_option linter.unusedSimpArgs false
set_option linter.unusedVariables false
open Go Go.Fw
/-- bobbin/front.Of -/
def a_front_Ofb1 : ACode :=
       .seq (
        .ops [⟨some 69, .bin .lss .num (.tmp 68) (.tmp 67), none⟩]) (
       .seq (
        .cond (.tmp 69) (
          .skip) (
          .exit 6)) (
       .seq (
        .block 7 (
          .seq (
           .ops [⟨some 70, .val (.tmp 68), none⟩,
             ⟨some 11, .val (.tmp 70), none⟩]) (
          .seq (
           .ops [⟨some 71, .val (.tmp 5), none⟩,
             ⟨some 72, .val (.tmp 11), none⟩,
             ⟨some 73, .indexAddr 1 (.tmp 71) (.tmp 72), none⟩,
             ⟨some 74, .load false 1 (.tmp 73), none⟩,
             ⟨some 75, .call (.val (.fn (.func 47) [] [])) [(.tmp 74)], none⟩]) (
          .ops [⟨some 76, .val (.tmp 5), none⟩,
            ⟨some 77, .val (.tmp 11), none⟩,
            ⟨some 78, .val (.tmp 5), none⟩,
            ⟨some 79, .val (.tmp 11), none⟩,
            ⟨some 80, .indexAddr 1 (.tmp 78) (.tmp 79), none⟩,
            ⟨some 81, .load false 1 (.tmp 80), none⟩,
            ⟨some 82, .call (.val (.fn (.func 50) [] [])) [(.tmp 81)], none⟩,
            ⟨some 83, .indexAddr 1 (.tmp 76) (.tmp 77), none⟩,
            ⟨none, .store 1 (.tmp 83) (.tmp 82), none⟩])))) (
       .ops [⟨some 84, .bin .add .num (.tmp 68) (.val (.lit (.int .i64 1))), none⟩,
         ⟨some 68, .val (.tmp 84), none⟩])))

def a_front_Ofb2 : ACode :=
                     .seq (
                      .seq (
                       .ops [⟨some 38, .load false 1 (.tmp 3), none⟩,
                         ⟨some 39, .val (.tmp 6), none⟩,
                         ⟨some 40, .call (.val (.fn (.func 21) [] [])) [(.tmp 38), (.tmp 39)], none⟩,
                         ⟨some 41, .val (.tmp 40), none⟩,
                         ⟨some 42, .val (.tmp 10), some (41, true)⟩,
                         ⟨some 43, .bin .geq .num (.tmp 42) (.val (.lit (.int .i64 0))), some (41, true)⟩,
                         ⟨some 44, .pick (.tmp 41) (.tmp 43) (.val (.lit (.bool false))), none⟩,
                         ⟨some 45, .val (.tmp 44), none⟩,
                         ⟨some 46, .val (.tmp 9), some (45, true)⟩,
                         ⟨some 47, .val (.tmp 10), some (45, true)⟩,
                         ⟨some 48, .call (.tmp 46) [(.tmp 47)], some (45, true)⟩,
                         ⟨some 49, .un .not (.tmp 48), some (45, true)⟩,
                         ⟨some 50, .pick (.tmp 45) (.tmp 49) (.val (.lit (.bool false))), none⟩]) (
                      .cond (.tmp 50) (
                        .skip) (
                        .exit 4))) (
                     .seq (
                      .block 5 (
                        .ops [⟨some 54, .val (.tmp 5), none⟩,
                          ⟨some 55, .val (.tmp 10), none⟩,
                          ⟨some 56, .val (.tmp 5), none⟩,
                          ⟨some 57, .val (.tmp 10), none⟩,
                          ⟨some 58, .indexAddr 1 (.tmp 56) (.tmp 57), none⟩,
                          ⟨some 59, .load false 1 (.tmp 58), none⟩,
                          ⟨some 60, .load false 1 (.tmp 8), none⟩,
                          ⟨some 61, .bslice false 1 1 [(.lit (.int .i64 0))] [(0, 1, (.tmp 60))], none⟩,
                          ⟨some 62, .append false 1 8 (.tmp 59) (.tmp 61), none⟩,
                          ⟨some 63, .indexAddr 1 (.tmp 54) (.tmp 55), none⟩,
                          ⟨none, .store 1 (.tmp 63) (.tmp 62), none⟩])) (
                     .ops [⟨some 51, .load false 1 (.tmp 3), none⟩,
                       ⟨some 52, .val (.tmp 10), none⟩,
                       ⟨some 53, .call (.val (.fn (.func 22) [] [])) [(.tmp 51), (.tmp 52)], none⟩,
                       ⟨some 10, .val (.tmp 53), none⟩]))

def a_front_Ofb3 : ACode :=
              .seq (
               .ops [⟨some 33, .bin .lss .num (.tmp 32) (.tmp 31), none⟩]) (
              .seq (
               .cond (.tmp 33) (
                 .skip) (
                 .exit 2)) (
              .seq (
               .block 3 (
                 .seq (
                  .ops [⟨some 34, .indexAddr 1 (.tmp 30) (.tmp 32), none⟩,
                    ⟨some 35, .load false 1 (.tmp 34), none⟩,
                    ⟨some 8, .alloc [(.lit (.int .i64 0))], none⟩,
                    ⟨none, .store 1 (.tmp 8) (.tmp 35), none⟩]) (
                 .seq (
                  .ops [⟨some 36, .mkfn (.func 49) [] [(.tmp 8), (.tmp 3)], none⟩,
                    ⟨some 9, .val (.tmp 36), none⟩]) (
                 .seq (
                  .ops [⟨some 37, .val (.tmp 6), none⟩,
                    ⟨some 10, .val (.tmp 37), none⟩]) (
                 .block 4 (
                   .loop a_front_Ofb2)))))) (
              .ops [⟨some 64, .bin .add .num (.tmp 32) (.val (.lit (.int .i64 1))), none⟩,
                ⟨some 32, .val (.tmp 64), none⟩])))

def a_front_Ofb4 : ACode :=
       .seq (
        .ops [⟨some 25, .bin .lss .num (.tmp 24) (.tmp 23), none⟩]) (
       .seq (
        .cond (.tmp 25) (
          .skip) (
          .exit 0)) (
       .seq (
        .block 1 (
          .seq (
           .ops [⟨some 26, .val (.tmp 24), none⟩,
             ⟨some 6, .val (.tmp 26), none⟩]) (
          .seq (
           .ops [⟨some 27, .val (.tmp 0), none⟩,
             ⟨some 28, .val (.tmp 6), none⟩,
             ⟨some 29, .indexAddr 1 (.tmp 27) (.tmp 28), none⟩,
             ⟨some 30, .load false 1 (.tmp 29), none⟩,
             ⟨some 31, .len 1 (.tmp 30), none⟩,
             ⟨some 32, .val (.val (.lit (.int .i64 0))), none⟩]) (
          .block 2 (
            .loop a_front_Ofb3))))) (
       .ops [⟨some 65, .bin .add .num (.tmp 24) (.val (.lit (.int .i64 1))), none⟩,
         ⟨some 24, .val (.tmp 65), none⟩])))

def a_front_Of : ACode :=
  .seq (
   .ops [⟨some 2, .val (.val (.sl .nil 0 [])), none⟩]) (
  .seq (
   .ops [⟨some 13, .val (.tmp 0), none⟩,
     ⟨some 14, .call (.val (.fn (.func 16) [] [])) [(.tmp 13)], none⟩,
     ⟨some 12, .val (.tmp 14), none⟩,
     ⟨some 15, .extract (.tmp 12) 0, none⟩,
     ⟨some 16, .extract (.tmp 12) 1, none⟩,
     ⟨some 3, .alloc [(.lit (.pointer none))], none⟩,
     ⟨none, .store 1 (.tmp 3) (.tmp 15), none⟩,
     ⟨some 4, .val (.tmp 16), none⟩]) (
  .seq (
   .seq (
    .ops [⟨some 17, .val (.tmp 4), none⟩,
      ⟨some 18, .bin .neq .num (.tmp 17) (.val (.lit (.int .i64 0))), none⟩]) (
   .cond (.tmp 18) (
     .seq (
      .ops [⟨some 2, .val (.val (.sl .nil 0 [])), none⟩]) (
     .ret)) (
     .skip))) (
  .seq (
   .ops [⟨some 19, .val (.tmp 0), none⟩,
     ⟨some 20, .len 1 (.tmp 19), none⟩,
     ⟨some 21, .mkslice 1 24 [(.sl .nil 0 [])] (.tmp 20) (.tmp 20), none⟩,
     ⟨some 5, .val (.tmp 21), none⟩]) (
  .seq (
   .seq (
    .ops [⟨some 22, .val (.tmp 0), none⟩,
      ⟨some 23, .len 1 (.tmp 22), none⟩,
      ⟨some 24, .val (.val (.lit (.int .i64 0))), none⟩]) (
   .block 0 (
     .loop a_front_Ofb4))) (
  .seq (
   .seq (
    .ops [⟨some 66, .val (.tmp 5), none⟩,
      ⟨some 67, .len 1 (.tmp 66), none⟩,
      ⟨some 68, .val (.val (.lit (.int .i64 0))), none⟩]) (
   .block 6 (
     .loop a_front_Ofb1))) (
  .seq (
   .ops [⟨some 85, .val (.tmp 5), none⟩,
     ⟨some 2, .val (.tmp 85), none⟩]) (
  .ret)))))))

theorem c_front_Of : codeOf Try.prog {  } 34 = some (a_front_Of, [.tmp 2], 86) := by kernel_rfl

/-- bobbin/front.Of$1 -/
def a_front_Of_1 : ACode :=
  .seq (
   .ops [⟨some 4, .val (.val (.lit (.bool false))), none⟩]) (
  .seq (
   .ops [⟨some 5, .val (.tmp 0), none⟩,
     ⟨some 6, .load false 1 (.tmp 1), none⟩,
     ⟨some 7, .bin .neq .num (.tmp 5) (.tmp 6), none⟩,
     ⟨some 8, .val (.tmp 7), none⟩,
     ⟨some 9, .load false 1 (.tmp 2), some (8, true)⟩,
     ⟨some 10, .val (.tmp 0), some (8, true)⟩,
     ⟨some 11, .load false 1 (.tmp 1), some (8, true)⟩,
     ⟨some 12, .call (.val (.fn (.func 26) [] [])) [(.tmp 9), (.tmp 10), (.tmp 11)], some (8, true)⟩,
     ⟨some 13, .pick (.tmp 8) (.tmp 12) (.val (.lit (.bool false))), none⟩,
     ⟨some 4, .val (.tmp 13), none⟩]) (
  .ret))

theorem c_front_Of_1 : codeOf Try.prog {  } 49 = some (a_front_Of_1, [.tmp 4], 14) := by kernel_rfl

/-- bobbin/front.Placed -/
def a_front_Placedb1 : ACode :=
             .seq (
              .ops [⟨some 55, .bin .lss .num (.tmp 54) (.tmp 53), none⟩]) (
             .seq (
              .cond (.tmp 55) (
                .skip) (
                .exit 4)) (
             .seq (
              .block 5 (
                .seq (
                 .ops [⟨some 56, .indexAddr 1 (.tmp 52) (.tmp 54), none⟩,
                   ⟨some 57, .load false 1 (.tmp 56), none⟩,
                   ⟨some 13, .val (.tmp 57), none⟩]) (
                .seq (
                 .ops [⟨some 58, .val (.tmp 7), none⟩,
                   ⟨some 59, .val (.tmp 13), none⟩,
                   ⟨some 60, .call (.val (.fn (.func 46) [] [])) [(.tmp 58), (.tmp 59)], none⟩,
                   ⟨some 61, .un .not (.tmp 60), none⟩]) (
                .cond (.tmp 61) (
                  .ops [⟨some 62, .val (.tmp 7), none⟩,
                    ⟨some 63, .val (.tmp 13), none⟩,
                    ⟨some 64, .bslice false 1 1 [(.lit (.int .i64 0))] [(0, 1, (.tmp 63))], none⟩,
                    ⟨some 65, .append false 1 8 (.tmp 62) (.tmp 64), none⟩,
                    ⟨some 66, .val (.tmp 6), none⟩,
                    ⟨some 67, .val (.tmp 13), none⟩,
                    ⟨some 68, .bslice false 1 1 [(.lit (.int .i64 0))] [(0, 1, (.tmp 67))], none⟩,
                    ⟨some 69, .append false 1 8 (.tmp 66) (.tmp 68), none⟩,
                    ⟨some 7, .val (.tmp 65), none⟩,
                    ⟨some 6, .val (.tmp 69), none⟩]) (
                  .skip))))) (
             .ops [⟨some 70, .bin .add .num (.tmp 54) (.val (.lit (.int .i64 1))), none⟩,
               ⟨some 54, .val (.tmp 70), none⟩])))

def a_front_Placedb2 : ACode :=
       .seq (
        .seq (
         .ops [⟨some 35, .val (.tmp 6), none⟩,
           ⟨some 36, .len 1 (.tmp 35), none⟩,
           ⟨some 37, .bin .gtr .num (.tmp 36) (.val (.lit (.int .i64 0))), none⟩]) (
        .cond (.tmp 37) (
          .skip) (
          .exit 2))) (
       .block 3 (
         .seq (
          .ops [⟨some 38, .val (.tmp 6), none⟩,
            ⟨some 39, .len 1 (.tmp 38), none⟩,
            ⟨some 40, .bin .sub .num (.tmp 39) (.val (.lit (.int .i64 1))), none⟩,
            ⟨some 10, .val (.tmp 40), none⟩]) (
         .seq (
          .ops [⟨some 41, .val (.tmp 6), none⟩,
            ⟨some 42, .val (.tmp 10), none⟩,
            ⟨some 43, .indexAddr 1 (.tmp 41) (.tmp 42), none⟩,
            ⟨some 44, .load false 1 (.tmp 43), none⟩,
            ⟨some 11, .val (.tmp 44), none⟩]) (
         .seq (
          .ops [⟨some 45, .val (.tmp 6), none⟩,
            ⟨some 46, .val (.tmp 10), none⟩,
            ⟨some 47, .val (.tmp 10), none⟩,
            ⟨some 48, .slice 1 (.tmp 45) none (some (.tmp 46)) (some (.tmp 47)), none⟩,
            ⟨some 6, .val (.tmp 48), none⟩]) (
         .seq (
          .ops [⟨some 49, .val (.tmp 5), none⟩,
            ⟨some 50, .val (.tmp 11), none⟩,
            ⟨some 51, .indexAddr 1 (.tmp 49) (.tmp 50), none⟩,
            ⟨some 52, .load false 1 (.tmp 51), none⟩,
            ⟨some 53, .len 1 (.tmp 52), none⟩,
            ⟨some 54, .val (.val (.lit (.int .i64 0))), none⟩]) (
         .block 4 (
           .loop a_front_Placedb1)))))))

def a_front_Placedb3 : ACode :=
       .seq (
        .ops [⟨some 19, .bin .lss .num (.tmp 18) (.tmp 17), none⟩]) (
       .seq (
        .cond (.tmp 19) (
          .skip) (
          .exit 0)) (
       .seq (
        .block 1 (
          .seq (
           .ops [⟨some 20, .indexAddr 1 (.tmp 16) (.tmp 18), none⟩,
             ⟨some 21, .load false 1 (.tmp 20), none⟩,
             ⟨some 9, .val (.tmp 21), none⟩]) (
          .seq (
           .ops [⟨some 22, .val (.tmp 9), none⟩,
             ⟨some 23, .bin .geq .num (.tmp 22) (.val (.lit (.int .i64 0))), none⟩,
             ⟨some 24, .val (.tmp 23), none⟩,
             ⟨some 25, .val (.tmp 9), some (24, true)⟩,
             ⟨some 26, .val (.tmp 5), some (24, true)⟩,
             ⟨some 27, .len 1 (.tmp 26), some (24, true)⟩,
             ⟨some 28, .bin .lss .num (.tmp 25) (.tmp 27), some (24, true)⟩,
             ⟨some 29, .pick (.tmp 24) (.tmp 28) (.val (.lit (.bool false))), none⟩]) (
          .cond (.tmp 29) (
            .ops [⟨some 30, .val (.tmp 6), none⟩,
              ⟨some 31, .val (.tmp 9), none⟩,
              ⟨some 32, .bslice false 1 1 [(.lit (.int .i64 0))] [(0, 1, (.tmp 31))], none⟩,
              ⟨some 33, .append false 1 8 (.tmp 30) (.tmp 32), none⟩,
              ⟨some 6, .val (.tmp 33), none⟩]) (
            .skip))))) (
       .ops [⟨some 34, .bin .add .num (.tmp 18) (.val (.lit (.int .i64 1))), none⟩,
         ⟨some 18, .val (.tmp 34), none⟩])))

def a_front_Placed : ACode :=
  .seq (
   .ops [⟨some 4, .val (.val (.sl .nil 0 [])), none⟩]) (
  .seq (
   .ops [⟨some 14, .val (.tmp 0), none⟩,
     ⟨some 15, .call (.val (.fn (.func 34) [] [])) [(.tmp 14)], none⟩,
     ⟨some 5, .val (.tmp 15), none⟩]) (
  .seq (
   .ops [⟨some 6, .val (.val (.sl .nil 0 [])), none⟩,
     ⟨some 7, .val (.val (.sl .nil 0 [])), none⟩]) (
  .seq (
   .seq (
    .ops [⟨some 16, .val (.tmp 1), none⟩,
      ⟨some 17, .len 1 (.tmp 16), none⟩,
      ⟨some 18, .val (.val (.lit (.int .i64 0))), none⟩]) (
   .block 0 (
     .loop a_front_Placedb3))) (
  .seq (
   .block 2 (
     .loop a_front_Placedb2)) (
  .seq (
   .ops [⟨some 71, .val (.tmp 7), none⟩,
     ⟨some 72, .call (.val (.fn (.func 47) [] [])) [(.tmp 71)], none⟩]) (
  .seq (
   .ops [⟨some 73, .val (.tmp 7), none⟩,
     ⟨some 4, .val (.tmp 73), none⟩]) (
  .ret)))))))

theorem c_front_Placed : codeOf Try.prog {  } 30 = some (a_front_Placed, [.tmp 4], 74) := by kernel_rfl

/-- slices.Contains[[]int,int] -/
def a_slices_Contains_int_int : ACode :=
  .seq (
   .ops [⟨some 4, .val (.val (.lit (.bool false))), none⟩]) (
  .seq (
   .ops [⟨some 5, .val (.tmp 0), none⟩,
     ⟨some 6, .val (.tmp 1), none⟩,
     ⟨some 7, .call (.val (.fn (.func 60) [] [])) [(.tmp 5), (.tmp 6)], none⟩,
     ⟨some 8, .bin .geq .num (.tmp 7) (.val (.lit (.int .i64 0))), none⟩,
     ⟨some 4, .val (.tmp 8), none⟩]) (
  .ret))

theorem c_slices_Contains_int_int : codeOf Try.prog {  } 46 = some (a_slices_Contains_int_int, [.tmp 4], 9) := by kernel_rfl

/-- slices.Index[[]int,int] -/
def a_slices_Index_int_intb1 : ACode :=
       .seq (
        .ops [⟨some 9, .bin .lss .num (.tmp 8) (.tmp 7), none⟩]) (
       .seq (
        .cond (.tmp 9) (
          .skip) (
          .exit 0)) (
       .seq (
        .block 1 (
          .seq (
           .ops [⟨some 10, .val (.tmp 8), none⟩,
             ⟨some 5, .val (.tmp 10), none⟩]) (
          .seq (
           .ops [⟨some 11, .val (.tmp 1), none⟩,
             ⟨some 12, .val (.tmp 0), none⟩,
             ⟨some 13, .val (.tmp 5), none⟩,
             ⟨some 14, .indexAddr 1 (.tmp 12) (.tmp 13), none⟩,
             ⟨some 15, .load false 1 (.tmp 14), none⟩,
             ⟨some 16, .bin .eql .num (.tmp 11) (.tmp 15), none⟩]) (
          .cond (.tmp 16) (
            .seq (
             .ops [⟨some 17, .val (.tmp 5), none⟩,
               ⟨some 4, .val (.tmp 17), none⟩]) (
            .ret)) (
            .skip))))) (
       .ops [⟨some 18, .bin .add .num (.tmp 8) (.val (.lit (.int .i64 1))), none⟩,
         ⟨some 8, .val (.tmp 18), none⟩])))

def a_slices_Index_int_int : ACode :=
  .seq (
   .ops [⟨some 4, .val (.val (.lit (.int .i64 0))), none⟩]) (
  .seq (
   .seq (
    .ops [⟨some 6, .val (.tmp 0), none⟩,
      ⟨some 7, .len 1 (.tmp 6), none⟩,
      ⟨some 8, .val (.val (.lit (.int .i64 0))), none⟩]) (
   .block 0 (
     .loop a_slices_Index_int_intb1))) (
  .seq (
   .ops [⟨some 4, .val (.val (.lit (.int .i64 (-1)))), none⟩]) (
  .ret)))

theorem c_slices_Index_int_int : codeOf Try.prog {  } 60 = some (a_slices_Index_int_int, [.tmp 4], 19) := by kernel_rfl

/-- bobbin/bobbinref13.has -/
def a_bobbinref13_hasb1 : ACode :=
       .seq (
        .seq (
         .ops [⟨some 6, .val (.tmp 5), none⟩,
           ⟨some 7, .val (.tmp 0), none⟩,
           ⟨some 8, .len 1 (.tmp 7), none⟩,
           ⟨some 9, .bin .lss .num (.tmp 6) (.tmp 8), none⟩]) (
        .cond (.tmp 9) (
          .skip) (
          .exit 0))) (
       .seq (
        .block 1 (
          .seq (
           .ops [⟨some 12, .val (.tmp 0), none⟩,
             ⟨some 13, .val (.tmp 5), none⟩,
             ⟨some 14, .indexAddr 1 (.tmp 12) (.tmp 13), none⟩,
             ⟨some 15, .load false 1 (.tmp 14), none⟩,
             ⟨some 16, .val (.tmp 1), none⟩,
             ⟨some 17, .bin .eql .num (.tmp 15) (.tmp 16), none⟩]) (
          .cond (.tmp 17) (
            .seq (
             .ops [⟨some 4, .val (.val (.lit (.bool true))), none⟩]) (
            .ret)) (
            .skip)))) (
       .ops [⟨some 10, .val (.tmp 5), none⟩,
         ⟨some 11, .bin .add .num (.tmp 10) (.val (.lit (.int .i64 1))), none⟩,
         ⟨some 5, .val (.tmp 11), none⟩]))

def a_bobbinref13_has : ACode :=
  .seq (
   .ops [⟨some 4, .val (.val (.lit (.bool false))), none⟩]) (
  .seq (
   .seq (
    .ops [⟨some 5, .val (.val (.lit (.int .i64 0))), none⟩]) (
   .block 0 (
     .loop a_bobbinref13_hasb1))) (
  .seq (
   .ops [⟨some 4, .val (.val (.lit (.bool false))), none⟩]) (
  .ret)))

theorem c_bobbinref13_has : codeOf Try.prog {  } 51 = some (a_bobbinref13_has, [.tmp 4], 18) := by kernel_rfl

/-- bobbin/bobbinref13.front -/
def a_bobbinref13_frontb1 : ACode :=
               .seq (
                .seq (
                 .ops [⟨some 17, .val (.tmp 10), none⟩,
                   ⟨some 18, .val (.tmp 0), none⟩,
                   ⟨some 19, .len 1 (.tmp 18), none⟩,
                   ⟨some 20, .bin .lss .num (.tmp 17) (.tmp 19), none⟩,
                   ⟨some 21, .val (.tmp 20), none⟩,
                   ⟨some 22, .val (.tmp 9), some (21, true)⟩,
                   ⟨some 23, .un .not (.tmp 22), some (21, true)⟩,
                   ⟨some 24, .pick (.tmp 21) (.tmp 23) (.val (.lit (.bool false))), none⟩]) (
                .cond (.tmp 24) (
                  .skip) (
                  .exit 2))) (
               .seq (
                .block 3 (
                  .ops [⟨some 27, .val (.tmp 0), none⟩,
                    ⟨some 28, .val (.tmp 10), none⟩,
                    ⟨some 29, .indexAddr 1 (.tmp 27) (.tmp 28), none⟩,
                    ⟨some 30, .load false 1 (.tmp 29), none⟩,
                    ⟨some 31, .val (.tmp 8), none⟩,
                    ⟨some 32, .call (.val (.fn (.func 51) [] [])) [(.tmp 30), (.tmp 31)], none⟩,
                    ⟨some 33, .val (.tmp 32), none⟩,
                    ⟨some 34, .val (.tmp 1), some (33, true)⟩,
                    ⟨some 35, .val (.tmp 2), some (33, true)⟩,
                    ⟨some 36, .val (.tmp 10), some (33, true)⟩,
                    ⟨some 37, .call (.val (.fn (.func 27) [] [])) [(.tmp 34), (.tmp 35), (.tmp 36)], some (33, true)⟩,
                    ⟨some 38, .pick (.tmp 33) (.tmp 37) (.val (.lit (.bool false))), none⟩,
                    ⟨some 9, .val (.tmp 38), none⟩])) (
               .ops [⟨some 25, .val (.tmp 10), none⟩,
                 ⟨some 26, .bin .add .num (.tmp 25) (.val (.lit (.int .i64 1))), none⟩,
                 ⟨some 10, .val (.tmp 26), none⟩]))

def a_bobbinref13_frontb2 : ACode :=
       .seq (
        .seq (
         .ops [⟨some 11, .val (.tmp 8), none⟩,
           ⟨some 12, .val (.tmp 0), none⟩,
           ⟨some 13, .len 1 (.tmp 12), none⟩,
           ⟨some 14, .bin .lss .num (.tmp 11) (.tmp 13), none⟩]) (
        .cond (.tmp 14) (
          .skip) (
          .exit 0))) (
       .seq (
        .block 1 (
          .seq (
           .ops [⟨some 9, .val (.val (.lit (.bool false))), none⟩]) (
          .seq (
           .seq (
            .ops [⟨some 10, .val (.val (.lit (.int .i64 0))), none⟩]) (
           .block 2 (
             .loop a_bobbinref13_frontb1))) (
          .seq (
           .ops [⟨some 39, .val (.tmp 9), none⟩,
             ⟨some 40, .val (.tmp 39), none⟩,
             ⟨some 41, .val (.tmp 2), some (40, true)⟩,
             ⟨some 42, .val (.tmp 8), some (40, true)⟩,
             ⟨some 43, .bin .eql .num (.tmp 41) (.tmp 42), some (40, true)⟩,
             ⟨some 44, .val (.tmp 43), some (40, true)⟩,
             ⟨some 45, .val (.tmp 1), some (44, false)⟩,
             ⟨some 46, .val (.tmp 2), some (44, false)⟩,
             ⟨some 47, .val (.tmp 8), some (44, false)⟩,
             ⟨some 48, .call (.val (.fn (.func 27) [] [])) [(.tmp 45), (.tmp 46), (.tmp 47)], some (44, false)⟩,
             ⟨some 49, .un .not (.tmp 48), some (44, false)⟩,
             ⟨some 50, .pick (.tmp 44) (.val (.lit (.bool true))) (.tmp 49), some (40, true)⟩,
             ⟨some 51, .pick (.tmp 40) (.tmp 50) (.val (.lit (.bool false))), none⟩]) (
          .cond (.tmp 51) (
            .ops [⟨some 52, .val (.tmp 7), none⟩,
              ⟨some 53, .val (.tmp 8), none⟩,
              ⟨some 54, .bslice false 1 1 [(.lit (.int .i64 0))] [(0, 1, (.tmp 53))], none⟩,
              ⟨some 55, .append false 1 8 (.tmp 52) (.tmp 54), none⟩,
              ⟨some 7, .val (.tmp 55), none⟩]) (
            .skip)))))) (
       .ops [⟨some 15, .val (.tmp 8), none⟩,
         ⟨some 16, .bin .add .num (.tmp 15) (.val (.lit (.int .i64 1))), none⟩,
         ⟨some 8, .val (.tmp 16), none⟩]))

def a_bobbinref13_front : ACode :=
  .seq (
   .ops [⟨some 6, .val (.val (.sl .nil 0 [])), none⟩]) (
  .seq (
   .ops [⟨some 7, .val (.val (.sl .nil 0 [])), none⟩]) (
  .seq (
   .seq (
    .ops [⟨some 8, .val (.val (.lit (.int .i64 0))), none⟩]) (
   .block 0 (
     .loop a_bobbinref13_frontb2))) (
  .seq (
   .ops [⟨some 56, .val (.tmp 7), none⟩,
     ⟨some 6, .val (.tmp 56), none⟩]) (
  .ret))))

theorem c_bobbinref13_front : codeOf Try.prog {  } 48 = some (a_bobbinref13_front, [.tmp 6], 57) := by kernel_rfl

/-- bobbin/bobbinref13.Of -/
def a_bobbinref13_Ofb1 : ACode :=
       .seq (
        .seq (
         .ops [⟨some 14, .val (.tmp 6), none⟩,
           ⟨some 15, .val (.tmp 0), none⟩,
           ⟨some 16, .len 1 (.tmp 15), none⟩,
           ⟨some 17, .bin .lss .num (.tmp 14) (.tmp 16), none⟩]) (
        .cond (.tmp 17) (
          .skip) (
          .exit 0))) (
       .seq (
        .block 1 (
          .ops [⟨some 20, .val (.tmp 5), none⟩,
            ⟨some 21, .val (.tmp 0), none⟩,
            ⟨some 22, .val (.tmp 3), none⟩,
            ⟨some 23, .val (.tmp 6), none⟩,
            ⟨some 24, .call (.val (.fn (.func 48) [] [])) [(.tmp 21), (.tmp 22), (.tmp 23)], none⟩,
            ⟨some 25, .bslice false 1 1 [(.sl .nil 0 [])] [(0, 1, (.tmp 24))], none⟩,
            ⟨some 26, .append false 1 24 (.tmp 20) (.tmp 25), none⟩,
            ⟨some 5, .val (.tmp 26), none⟩])) (
       .ops [⟨some 18, .val (.tmp 6), none⟩,
         ⟨some 19, .bin .add .num (.tmp 18) (.val (.lit (.int .i64 1))), none⟩,
         ⟨some 6, .val (.tmp 19), none⟩]))

def a_bobbinref13_Of : ACode :=
  .seq (
   .ops [⟨some 2, .val (.val (.sl .nil 0 [])), none⟩]) (
  .seq (
   .ops [⟨some 8, .val (.tmp 0), none⟩,
     ⟨some 9, .call (.val (.fn (.func 17) [] [])) [(.tmp 8)], none⟩,
     ⟨some 7, .val (.tmp 9), none⟩,
     ⟨some 10, .extract (.tmp 7) 0, none⟩,
     ⟨some 11, .extract (.tmp 7) 1, none⟩,
     ⟨some 3, .val (.tmp 10), none⟩,
     ⟨some 4, .val (.tmp 11), none⟩]) (
  .seq (
   .seq (
    .ops [⟨some 12, .val (.tmp 4), none⟩,
      ⟨some 13, .bin .neq .num (.tmp 12) (.val (.lit (.int .i64 0))), none⟩]) (
   .cond (.tmp 13) (
     .seq (
      .ops [⟨some 2, .val (.val (.sl .nil 0 [])), none⟩]) (
     .ret)) (
     .skip))) (
  .seq (
   .ops [⟨some 5, .val (.val (.sl .nil 0 [])), none⟩]) (
  .seq (
   .seq (
    .ops [⟨some 6, .val (.val (.lit (.int .i64 0))), none⟩]) (
   .block 0 (
     .loop a_bobbinref13_Ofb1))) (
  .seq (
   .ops [⟨some 27, .val (.tmp 5), none⟩,
     ⟨some 2, .val (.tmp 27), none⟩]) (
  .ret))))))

theorem c_bobbinref13_Of : codeOf Try.prog {  } 33 = some (a_bobbinref13_Of, [.tmp 2], 28) := by kernel_rfl

/-- bobbin/bobbinref13.Placed -/
def a_bobbinref13_Placedb1 : ACode :=
       .seq (
        .seq (
         .ops [⟨some 64, .val (.tmp 11), none⟩,
           ⟨some 65, .val (.tmp 5), none⟩,
           ⟨some 66, .len 1 (.tmp 65), none⟩,
           ⟨some 67, .bin .lss .num (.tmp 64) (.tmp 66), none⟩]) (
        .cond (.tmp 67) (
          .skip) (
          .exit 6))) (
       .seq (
        .block 7 (
          .seq (
           .ops [⟨some 70, .val (.tmp 6), none⟩,
             ⟨some 71, .val (.tmp 11), none⟩,
             ⟨some 72, .indexAddr 1 (.tmp 70) (.tmp 71), none⟩,
             ⟨some 73, .load false 1 (.tmp 72), none⟩]) (
          .cond (.tmp 73) (
            .ops [⟨some 74, .val (.tmp 10), none⟩,
              ⟨some 75, .val (.tmp 11), none⟩,
              ⟨some 76, .bslice false 1 1 [(.lit (.int .i64 0))] [(0, 1, (.tmp 75))], none⟩,
              ⟨some 77, .append false 1 8 (.tmp 74) (.tmp 76), none⟩,
              ⟨some 10, .val (.tmp 77), none⟩]) (
            .skip)))) (
       .ops [⟨some 68, .val (.tmp 11), none⟩,
         ⟨some 69, .bin .add .num (.tmp 68) (.val (.lit (.int .i64 1))), none⟩,
         ⟨some 11, .val (.tmp 69), none⟩]))

def a_bobbinref13_Placedb2 : ACode :=
                    .seq (
                     .seq (
                      .ops [⟨some 24, .val (.tmp 9), none⟩,
                        ⟨some 25, .val (.tmp 5), none⟩,
                        ⟨some 26, .val (.tmp 8), none⟩,
                        ⟨some 27, .indexAddr 1 (.tmp 25) (.tmp 26), none⟩,
                        ⟨some 28, .load false 1 (.tmp 27), none⟩,
                        ⟨some 29, .len 1 (.tmp 28), none⟩,
                        ⟨some 30, .bin .lss .num (.tmp 24) (.tmp 29), none⟩,
                        ⟨some 31, .val (.tmp 30), none⟩,
                        ⟨some 32, .val (.tmp 6), some (31, true)⟩,
                        ⟨some 33, .val (.tmp 8), some (31, true)⟩,
                        ⟨some 34, .indexAddr 1 (.tmp 32) (.tmp 33), some (31, true)⟩,
                        ⟨some 35, .load false 1 (.tmp 34), some (31, true)⟩,
                        ⟨some 36, .val (.tmp 35), some (31, true)⟩,
                        ⟨some 37, .val (.tmp 1), some (36, false)⟩,
                        ⟨some 38, .val (.tmp 8), some (36, false)⟩,
                        ⟨some 39, .call (.val (.fn (.func 51) [] [])) [(.tmp 37), (.tmp 38)], some (36, false)⟩,
                        ⟨some 40, .pick (.tmp 36) (.val (.lit (.bool true))) (.tmp 39), some (31, true)⟩,
                        ⟨some 41, .pick (.tmp 31) (.tmp 40) (.val (.lit (.bool false))), none⟩]) (
                     .cond (.tmp 41) (
                       .skip) (
                       .exit 4))) (
                    .seq (
                     .block 5 (
                       .seq (
                        .ops [⟨some 44, .val (.tmp 6), none⟩,
                          ⟨some 45, .val (.tmp 5), none⟩,
                          ⟨some 46, .val (.tmp 8), none⟩,
                          ⟨some 47, .indexAddr 1 (.tmp 45) (.tmp 46), none⟩,
                          ⟨some 48, .load false 1 (.tmp 47), none⟩,
                          ⟨some 49, .val (.tmp 9), none⟩,
                          ⟨some 50, .indexAddr 1 (.tmp 48) (.tmp 49), none⟩,
                          ⟨some 51, .load false 1 (.tmp 50), none⟩,
                          ⟨some 52, .indexAddr 1 (.tmp 44) (.tmp 51), none⟩,
                          ⟨some 53, .load false 1 (.tmp 52), none⟩,
                          ⟨some 54, .un .not (.tmp 53), none⟩]) (
                       .cond (.tmp 54) (
                         .seq (
                          .ops [⟨some 55, .val (.tmp 6), none⟩,
                            ⟨some 56, .val (.tmp 5), none⟩,
                            ⟨some 57, .val (.tmp 8), none⟩,
                            ⟨some 58, .indexAddr 1 (.tmp 56) (.tmp 57), none⟩,
                            ⟨some 59, .load false 1 (.tmp 58), none⟩,
                            ⟨some 60, .val (.tmp 9), none⟩,
                            ⟨some 61, .indexAddr 1 (.tmp 59) (.tmp 60), none⟩,
                            ⟨some 62, .load false 1 (.tmp 61), none⟩,
                            ⟨some 63, .indexAddr 1 (.tmp 55) (.tmp 62), none⟩,
                            ⟨none, .store 1 (.tmp 63) (.val (.lit (.bool true))), none⟩]) (
                         .ops [⟨some 7, .val (.val (.lit (.bool true))), none⟩])) (
                         .skip)))) (
                    .ops [⟨some 42, .val (.tmp 9), none⟩,
                      ⟨some 43, .bin .add .num (.tmp 42) (.val (.lit (.int .i64 1))), none⟩,
                      ⟨some 9, .val (.tmp 43), none⟩]))

def a_bobbinref13_Placedb3 : ACode :=
             .seq (
              .seq (
               .ops [⟨some 18, .val (.tmp 8), none⟩,
                 ⟨some 19, .val (.tmp 5), none⟩,
                 ⟨some 20, .len 1 (.tmp 19), none⟩,
                 ⟨some 21, .bin .lss .num (.tmp 18) (.tmp 20), none⟩]) (
              .cond (.tmp 21) (
                .skip) (
                .exit 2))) (
             .seq (
              .block 3 (
                .seq (
                 .ops [⟨some 9, .val (.val (.lit (.int .i64 0))), none⟩]) (
                .block 4 (
                  .loop a_bobbinref13_Placedb2)))) (
             .ops [⟨some 22, .val (.tmp 8), none⟩,
               ⟨some 23, .bin .add .num (.tmp 22) (.val (.lit (.int .i64 1))), none⟩,
               ⟨some 8, .val (.tmp 23), none⟩]))

def a_bobbinref13_Placedb4 : ACode :=
       .seq (
        .seq (
         .ops [⟨some 17, .val (.tmp 7), none⟩]) (
        .cond (.tmp 17) (
          .skip) (
          .exit 0))) (
       .block 1 (
         .seq (
          .ops [⟨some 7, .val (.val (.lit (.bool false))), none⟩]) (
         .seq (
          .ops [⟨some 8, .val (.val (.lit (.int .i64 0))), none⟩]) (
         .block 2 (
           .loop a_bobbinref13_Placedb3)))))

def a_bobbinref13_Placed : ACode :=
  .seq (
   .ops [⟨some 4, .val (.val (.sl .nil 0 [])), none⟩]) (
  .seq (
   .ops [⟨some 12, .val (.tmp 0), none⟩,
     ⟨some 13, .call (.val (.fn (.func 33) [] [])) [(.tmp 12)], none⟩,
     ⟨some 5, .val (.tmp 13), none⟩]) (
  .seq (
   .ops [⟨some 14, .val (.tmp 5), none⟩,
     ⟨some 15, .len 1 (.tmp 14), none⟩,
     ⟨some 16, .mkslice 1 1 [(.lit (.bool false))] (.tmp 15) (.tmp 15), none⟩,
     ⟨some 6, .val (.tmp 16), none⟩]) (
  .seq (
   .seq (
    .ops [⟨some 7, .val (.val (.lit (.bool true))), none⟩]) (
   .block 0 (
     .loop a_bobbinref13_Placedb4))) (
  .seq (
   .ops [⟨some 10, .val (.val (.sl .nil 0 [])), none⟩]) (
  .seq (
   .seq (
    .ops [⟨some 11, .val (.val (.lit (.int .i64 0))), none⟩]) (
   .block 6 (
     .loop a_bobbinref13_Placedb1))) (
  .seq (
   .ops [⟨some 78, .val (.tmp 10), none⟩,
     ⟨some 4, .val (.tmp 78), none⟩]) (
  .ret)))))))

theorem c_bobbinref13_Placed : codeOf Try.prog {  } 35 = some (a_bobbinref13_Placed, [.tmp 4], 79) := by kernel_rfl

/-- bobbin/bobbinlaw13.large -/
def a_bobbinlaw13_largeb1 : ACode :=
       .seq (
        .seq (
         .ops [⟨some 9, .val (.tmp 6), none⟩,
           ⟨some 10, .val (.tmp 0), none⟩,
           ⟨some 11, .len 1 (.tmp 10), none⟩,
           ⟨some 12, .bin .lss .num (.tmp 9) (.tmp 11), none⟩,
           ⟨some 13, .val (.tmp 12), none⟩,
           ⟨some 14, .val (.tmp 5), some (13, true)⟩,
           ⟨some 15, .bin .lss .num (.tmp 14) (.val (.lit (.int .i64 400))), some (13, true)⟩,
           ⟨some 16, .pick (.tmp 13) (.tmp 15) (.val (.lit (.bool false))), none⟩]) (
        .cond (.tmp 16) (
          .skip) (
          .exit 0))) (
       .seq (
        .block 1 (
          .ops [⟨some 19, .val (.tmp 5), none⟩,
            ⟨some 20, .val (.tmp 0), none⟩,
            ⟨some 21, .val (.tmp 6), none⟩,
            ⟨some 22, .indexAddr 1 (.tmp 20) (.tmp 21), none⟩,
            ⟨some 23, .load false 1 (.tmp 22), none⟩,
            ⟨some 24, .len 1 (.tmp 23), none⟩,
            ⟨some 25, .bin .add .num (.tmp 19) (.tmp 24), none⟩,
            ⟨some 5, .val (.tmp 25), none⟩])) (
       .ops [⟨some 17, .val (.tmp 6), none⟩,
         ⟨some 18, .bin .add .num (.tmp 17) (.val (.lit (.int .i64 1))), none⟩,
         ⟨some 6, .val (.tmp 18), none⟩]))

def a_bobbinlaw13_large : ACode :=
  .seq (
   .ops [⟨some 4, .val (.val (.lit (.bool false))), none⟩]) (
  .seq (
   .ops [⟨some 7, .val (.tmp 0), none⟩,
     ⟨some 8, .len 1 (.tmp 7), none⟩,
     ⟨some 5, .val (.tmp 8), none⟩]) (
  .seq (
   .seq (
    .ops [⟨some 6, .val (.val (.lit (.int .i64 0))), none⟩]) (
   .block 0 (
     .loop a_bobbinlaw13_largeb1))) (
  .seq (
   .ops [⟨some 26, .val (.tmp 5), none⟩,
     ⟨some 27, .bin .geq .num (.tmp 26) (.val (.lit (.int .i64 400))), none⟩,
     ⟨some 28, .val (.tmp 27), none⟩,
     ⟨some 29, .val (.tmp 0), some (28, false)⟩,
     ⟨some 30, .len 1 (.tmp 29), some (28, false)⟩,
     ⟨some 31, .bin .gtr .num (.tmp 30) (.val (.lit (.int .i64 60))), some (28, false)⟩,
     ⟨some 32, .pick (.tmp 28) (.val (.lit (.bool true))) (.tmp 31), none⟩,
     ⟨some 33, .val (.tmp 32), none⟩,
     ⟨some 34, .val (.tmp 1), some (33, false)⟩,
     ⟨some 35, .len 1 (.tmp 34), some (33, false)⟩,
     ⟨some 36, .bin .gtr .num (.tmp 35) (.val (.lit (.int .i64 400))), some (33, false)⟩,
     ⟨some 37, .pick (.tmp 33) (.val (.lit (.bool true))) (.tmp 36), none⟩,
     ⟨some 4, .val (.tmp 37), none⟩]) (
  .ret))))

theorem c_bobbinlaw13_large : codeOf Try.prog {  } 32 = some (a_bobbinlaw13_large, [.tmp 4], 38) := by kernel_rfl

/-- bobbin/bobbinlaw13.is -/
def a_bobbinlaw13_isb1 : ACode :=
       .seq (
        .seq (
         .ops [⟨some 14, .val (.tmp 6), none⟩,
           ⟨some 15, .val (.tmp 5), none⟩,
           ⟨some 16, .len 1 (.tmp 15), none⟩,
           ⟨some 17, .bin .lss .num (.tmp 14) (.tmp 16), none⟩]) (
        .cond (.tmp 17) (
          .skip) (
          .exit 0))) (
       .seq (
        .block 1 (
          .seq (
           .ops [⟨some 20, .val (.tmp 5), none⟩,
             ⟨some 21, .val (.tmp 6), none⟩,
             ⟨some 22, .indexAddr 1 (.tmp 20) (.tmp 21), none⟩,
             ⟨some 24, .val (.tmp 1), none⟩,
             ⟨some 25, .val (.tmp 6), none⟩,
             ⟨some 26, .indexAddr 1 (.tmp 24) (.tmp 25), none⟩,
             ⟨some 23, .load false 1 (.tmp 22), none⟩,
             ⟨some 27, .load false 1 (.tmp 26), none⟩,
             ⟨some 28, .call (.val (.fn (.func 31) [] [])) [(.tmp 23), (.tmp 27)], none⟩,
             ⟨some 29, .un .not (.tmp 28), none⟩]) (
          .cond (.tmp 29) (
            .seq (
             .ops [⟨some 4, .val (.val (.lit (.bool false))), none⟩]) (
            .ret)) (
            .skip)))) (
       .ops [⟨some 18, .val (.tmp 6), none⟩,
         ⟨some 19, .bin .add .num (.tmp 18) (.val (.lit (.int .i64 1))), none⟩,
         ⟨some 6, .val (.tmp 19), none⟩]))

def a_bobbinlaw13_is : ACode :=
  .seq (
   .ops [⟨some 4, .val (.val (.lit (.bool false))), none⟩]) (
  .seq (
   .ops [⟨some 7, .val (.tmp 0), none⟩,
     ⟨some 8, .call (.val (.fn (.func 34) [] [])) [(.tmp 7)], none⟩,
     ⟨some 5, .val (.tmp 8), none⟩]) (
  .seq (
   .seq (
    .ops [⟨some 9, .val (.tmp 5), none⟩,
      ⟨some 10, .len 1 (.tmp 9), none⟩,
      ⟨some 11, .val (.tmp 1), none⟩,
      ⟨some 12, .len 1 (.tmp 11), none⟩,
      ⟨some 13, .bin .neq .num (.tmp 10) (.tmp 12), none⟩]) (
   .cond (.tmp 13) (
     .seq (
      .ops [⟨some 4, .val (.val (.lit (.bool false))), none⟩]) (
     .ret)) (
     .skip))) (
  .seq (
   .seq (
    .ops [⟨some 6, .val (.val (.lit (.int .i64 0))), none⟩]) (
   .block 0 (
     .loop a_bobbinlaw13_isb1))) (
  .seq (
   .ops [⟨some 4, .val (.val (.lit (.bool true))), none⟩]) (
  .ret)))))

theorem c_bobbinlaw13_is : codeOf Try.prog {  } 29 = some (a_bobbinlaw13_is, [.tmp 4], 30) := by kernel_rfl

/-- bobbin/bobbinlaw13.works -/
def a_bobbinlaw13_works : ACode :=
  .seq (
   .ops [⟨some 0, .val (.val (.lit (.bool false))), none⟩]) (
  .seq (
   .ops [⟨some 3, .bslice false 1 2 [(.lit (.int .i64 0)), (.lit (.int .i64 0))] [(0, 1, (.val (.lit (.int .i64 1)))), (1, 1, (.val (.lit (.int .i64 2))))], none⟩,
     ⟨some 4, .bslice false 1 1 [(.lit (.int .i64 0))] [(0, 1, (.val (.lit (.int .i64 3))))], none⟩,
     ⟨some 5, .bslice false 1 1 [(.lit (.int .i64 0))] [(0, 1, (.val (.lit (.int .i64 3))))], none⟩,
     ⟨some 6, .bslice false 1 0 [] [], none⟩,
     ⟨some 7, .bslice false 1 4 [(.sl .nil 0 []), (.sl .nil 0 []), (.sl .nil 0 []), (.sl .nil 0 [])] [(0, 1, (.tmp 3)), (1, 1, (.tmp 4)), (2, 1, (.tmp 5)), (3, 1, (.tmp 6))], none⟩,
     ⟨some 1, .val (.tmp 7), none⟩]) (
  .seq (
   .ops [⟨some 8, .bslice false 1 1 [(.lit (.int .i64 0))] [(0, 1, (.val (.lit (.int .i64 1))))], none⟩,
     ⟨some 9, .bslice false 1 2 [(.lit (.int .i64 0)), (.lit (.int .i64 0))] [(0, 1, (.val (.lit (.int .i64 2)))), (1, 1, (.val (.lit (.int .i64 3))))], none⟩,
     ⟨some 10, .bslice false 1 1 [(.lit (.int .i64 0))] [(0, 1, (.val (.lit (.int .i64 1))))], none⟩,
     ⟨some 11, .bslice false 1 0 [] [], none⟩,
     ⟨some 12, .bslice false 1 4 [(.sl .nil 0 []), (.sl .nil 0 []), (.sl .nil 0 []), (.sl .nil 0 [])] [(0, 1, (.tmp 8)), (1, 1, (.tmp 9)), (2, 1, (.tmp 10)), (3, 1, (.tmp 11))], none⟩,
     ⟨some 2, .val (.tmp 12), none⟩]) (
  .seq (
   .ops [⟨some 13, .val (.tmp 1), none⟩,
     ⟨some 14, .bslice false 1 1 [(.lit (.int .i64 0))] [(0, 1, (.val (.lit (.int .i64 3))))], none⟩,
     ⟨some 15, .bslice false 1 1 [(.lit (.int .i64 0))] [(0, 1, (.val (.lit (.int .i64 3))))], none⟩,
     ⟨some 16, .bslice false 1 4 [(.sl .nil 0 []), (.sl .nil 0 []), (.sl .nil 0 []), (.sl .nil 0 [])] [(0, 1, (.val (.sl .nil 0 []))), (1, 1, (.tmp 14)), (2, 1, (.tmp 15)), (3, 1, (.val (.sl .nil 0 [])))], none⟩,
     ⟨some 17, .call (.val (.fn (.func 29) [] [])) [(.tmp 13), (.tmp 16)], none⟩,
     ⟨some 18, .val (.tmp 17), none⟩,
     ⟨some 19, .val (.tmp 1), some (18, true)⟩,
     ⟨some 20, .bslice false 1 1 [(.lit (.int .i64 0))] [(0, 1, (.val (.lit (.int .i64 1))))], some (18, true)⟩,
     ⟨some 21, .call (.val (.fn (.func 30) [] [])) [(.tmp 19), (.tmp 20)], some (18, true)⟩,
     ⟨some 22, .bslice false 1 1 [(.lit (.int .i64 0))] [(0, 1, (.val (.lit (.int .i64 3))))], some (18, true)⟩,
     ⟨some 23, .call (.val (.fn (.func 31) [] [])) [(.tmp 21), (.tmp 22)], some (18, true)⟩,
     ⟨some 24, .pick (.tmp 18) (.tmp 23) (.val (.lit (.bool false))), none⟩,
     ⟨some 25, .val (.tmp 24), none⟩,
     ⟨some 26, .val (.tmp 2), some (25, true)⟩,
     ⟨some 27, .bslice false 1 1 [(.lit (.int .i64 0))] [(0, 1, (.val (.lit (.int .i64 1))))], some (25, true)⟩,
     ⟨some 28, .bslice false 1 1 [(.lit (.int .i64 0))] [(0, 1, (.val (.lit (.int .i64 1))))], some (25, true)⟩,
     ⟨some 29, .bslice false 1 4 [(.sl .nil 0 []), (.sl .nil 0 []), (.sl .nil 0 []), (.sl .nil 0 [])] [(0, 1, (.val (.sl .nil 0 []))), (1, 1, (.tmp 27)), (2, 1, (.tmp 28)), (3, 1, (.val (.sl .nil 0 [])))], some (25, true)⟩,
     ⟨some 30, .call (.val (.fn (.func 29) [] [])) [(.tmp 26), (.tmp 29)], some (25, true)⟩,
     ⟨some 31, .pick (.tmp 25) (.tmp 30) (.val (.lit (.bool false))), none⟩,
     ⟨some 32, .val (.tmp 31), none⟩,
     ⟨some 33, .val (.tmp 2), some (32, true)⟩,
     ⟨some 34, .bslice false 1 1 [(.lit (.int .i64 0))] [(0, 1, (.val (.lit (.int .i64 2))))], some (32, true)⟩,
     ⟨some 35, .call (.val (.fn (.func 30) [] [])) [(.tmp 33), (.tmp 34)], some (32, true)⟩,
     ⟨some 36, .bslice false 1 1 [(.lit (.int .i64 0))] [(0, 1, (.val (.lit (.int .i64 1))))], some (32, true)⟩,
     ⟨some 37, .call (.val (.fn (.func 31) [] [])) [(.tmp 35), (.tmp 36)], some (32, true)⟩,
     ⟨some 38, .pick (.tmp 32) (.tmp 37) (.val (.lit (.bool false))), none⟩,
     ⟨some 0, .val (.tmp 38), none⟩]) (
  .ret))))

theorem c_bobbinlaw13_works : codeOf Try.prog {  } 28 = some (a_bobbinlaw13_works, [.tmp 0], 39) := by kernel_rfl

/-- bobbin/bobbinlaw13.has -/
def a_bobbinlaw13_hasb1 : ACode :=
       .seq (
        .seq (
         .ops [⟨some 6, .val (.tmp 5), none⟩,
           ⟨some 7, .val (.tmp 0), none⟩,
           ⟨some 8, .len 1 (.tmp 7), none⟩,
           ⟨some 9, .bin .lss .num (.tmp 6) (.tmp 8), none⟩]) (
        .cond (.tmp 9) (
          .skip) (
          .exit 0))) (
       .seq (
        .block 1 (
          .seq (
           .ops [⟨some 12, .val (.tmp 0), none⟩,
             ⟨some 13, .val (.tmp 5), none⟩,
             ⟨some 14, .indexAddr 1 (.tmp 12) (.tmp 13), none⟩,
             ⟨some 15, .load false 1 (.tmp 14), none⟩,
             ⟨some 16, .val (.tmp 1), none⟩,
             ⟨some 17, .bin .eql .num (.tmp 15) (.tmp 16), none⟩]) (
          .cond (.tmp 17) (
            .seq (
             .ops [⟨some 4, .val (.val (.lit (.bool true))), none⟩]) (
            .ret)) (
            .skip)))) (
       .ops [⟨some 10, .val (.tmp 5), none⟩,
         ⟨some 11, .bin .add .num (.tmp 10) (.val (.lit (.int .i64 1))), none⟩,
         ⟨some 5, .val (.tmp 11), none⟩]))

def a_bobbinlaw13_has : ACode :=
  .seq (
   .ops [⟨some 4, .val (.val (.lit (.bool false))), none⟩]) (
  .seq (
   .seq (
    .ops [⟨some 5, .val (.val (.lit (.int .i64 0))), none⟩]) (
   .block 0 (
     .loop a_bobbinlaw13_hasb1))) (
  .seq (
   .ops [⟨some 4, .val (.val (.lit (.bool false))), none⟩]) (
  .ret)))

theorem c_bobbinlaw13_has : codeOf Try.prog {  } 36 = some (a_bobbinlaw13_has, [.tmp 4], 18) := by kernel_rfl

/-- bobbin/bobbinlaw13.FrontTells -/
def a_bobbinlaw13_FrontTellsb1 : ACode :=
              .seq (
               .seq (
                .ops [⟨some 70, .val (.tmp 11), none⟩,
                  ⟨some 71, .val (.tmp 8), none⟩,
                  ⟨some 72, .len 1 (.tmp 71), none⟩,
                  ⟨some 73, .bin .lss .num (.tmp 70) (.tmp 72), none⟩]) (
               .cond (.tmp 73) (
                 .skip) (
                 .exit 6))) (
              .seq (
               .block 7 (
                 .ops [⟨some 76, .val (.tmp 8), none⟩,
                   ⟨some 77, .val (.tmp 11), none⟩,
                   ⟨some 78, .indexAddr 1 (.tmp 76) (.tmp 77), none⟩,
                   ⟨none, .store 1 (.tmp 78) (.val (.lit (.int .i64 (-1)))), none⟩])) (
              .ops [⟨some 74, .val (.tmp 11), none⟩,
                ⟨some 75, .bin .add .num (.tmp 74) (.val (.lit (.int .i64 1))), none⟩,
                ⟨some 11, .val (.tmp 75), none⟩]))

def a_bobbinlaw13_FrontTellsb2 : ACode :=
                      .seq (
                       .seq (
                        .ops [⟨some 55, .val (.tmp 10), none⟩,
                          ⟨some 56, .val (.tmp 7), none⟩,
                          ⟨some 57, .val (.tmp 9), none⟩,
                          ⟨some 58, .indexAddr 1 (.tmp 56) (.tmp 57), none⟩,
                          ⟨some 59, .load false 1 (.tmp 58), none⟩,
                          ⟨some 60, .len 1 (.tmp 59), none⟩,
                          ⟨some 61, .bin .lss .num (.tmp 55) (.tmp 60), none⟩]) (
                       .cond (.tmp 61) (
                         .skip) (
                         .exit 4))) (
                      .seq (
                       .block 5 (
                         .ops [⟨some 64, .val (.tmp 7), none⟩,
                           ⟨some 65, .val (.tmp 9), none⟩,
                           ⟨some 66, .indexAddr 1 (.tmp 64) (.tmp 65), none⟩,
                           ⟨some 67, .load false 1 (.tmp 66), none⟩,
                           ⟨some 68, .val (.tmp 10), none⟩,
                           ⟨some 69, .indexAddr 1 (.tmp 67) (.tmp 68), none⟩,
                           ⟨none, .store 1 (.tmp 69) (.val (.lit (.int .i64 (-1)))), none⟩])) (
                      .ops [⟨some 62, .val (.tmp 10), none⟩,
                        ⟨some 63, .bin .add .num (.tmp 62) (.val (.lit (.int .i64 1))), none⟩,
                        ⟨some 10, .val (.tmp 63), none⟩]))

def a_bobbinlaw13_FrontTellsb3 : ACode :=
               .seq (
                .seq (
                 .ops [⟨some 39, .val (.tmp 9), none⟩,
                   ⟨some 40, .val (.tmp 7), none⟩,
                   ⟨some 41, .len 1 (.tmp 40), none⟩,
                   ⟨some 42, .bin .lss .num (.tmp 39) (.tmp 41), none⟩]) (
                .cond (.tmp 42) (
                  .skip) (
                  .exit 2))) (
               .seq (
                .block 3 (
                  .seq (
                   .seq (
                    .ops [⟨some 45, .val (.tmp 7), none⟩,
                      ⟨some 46, .val (.tmp 9), none⟩,
                      ⟨some 47, .indexAddr 1 (.tmp 45) (.tmp 46), none⟩,
                      ⟨some 49, .val (.tmp 5), none⟩,
                      ⟨some 50, .val (.tmp 9), none⟩,
                      ⟨some 51, .indexAddr 1 (.tmp 49) (.tmp 50), none⟩,
                      ⟨some 48, .load false 1 (.tmp 47), none⟩,
                      ⟨some 52, .load false 1 (.tmp 51), none⟩,
                      ⟨some 53, .call (.val (.fn (.func 31) [] [])) [(.tmp 48), (.tmp 52)], none⟩,
                      ⟨some 54, .un .not (.tmp 53), none⟩]) (
                   .cond (.tmp 54) (
                     .seq (
                      .ops [⟨some 4, .val (.val (.lit (.bool false))), none⟩]) (
                     .ret)) (
                     .skip))) (
                  .seq (
                   .ops [⟨some 10, .val (.val (.lit (.int .i64 0))), none⟩]) (
                  .block 4 (
                    .loop a_bobbinlaw13_FrontTellsb2))))) (
               .ops [⟨some 43, .val (.tmp 9), none⟩,
                 ⟨some 44, .bin .add .num (.tmp 43) (.val (.lit (.int .i64 1))), none⟩,
                 ⟨some 9, .val (.tmp 44), none⟩]))

def a_bobbinlaw13_FrontTellsb4 : ACode :=
       .seq (
        .seq (
         .ops [⟨some 17, .val (.tmp 6), none⟩,
           ⟨some 18, .bin .lss .num (.tmp 17) (.val (.lit (.int .i64 2))), none⟩]) (
        .cond (.tmp 18) (
          .skip) (
          .exit 0))) (
       .seq (
        .block 1 (
          .seq (
           .ops [⟨some 21, .val (.tmp 0), none⟩,
             ⟨some 22, .call (.val (.fn (.func 34) [] [])) [(.tmp 21)], none⟩,
             ⟨some 7, .val (.tmp 22), none⟩]) (
          .seq (
           .ops [⟨some 23, .val (.tmp 0), none⟩,
             ⟨some 24, .val (.tmp 1), none⟩,
             ⟨some 25, .call (.val (.fn (.func 30) [] [])) [(.tmp 23), (.tmp 24)], none⟩,
             ⟨some 8, .val (.tmp 25), none⟩]) (
          .seq (
           .seq (
            .ops [⟨some 26, .val (.tmp 7), none⟩,
              ⟨some 27, .len 1 (.tmp 26), none⟩,
              ⟨some 28, .val (.tmp 5), none⟩,
              ⟨some 29, .len 1 (.tmp 28), none⟩,
              ⟨some 30, .bin .neq .num (.tmp 27) (.tmp 29), none⟩,
              ⟨some 31, .val (.tmp 30), none⟩,
              ⟨some 32, .val (.tmp 8), some (31, false)⟩,
              ⟨some 33, .val (.tmp 0), some (31, false)⟩,
              ⟨some 34, .val (.tmp 1), some (31, false)⟩,
              ⟨some 35, .call (.val (.fn (.func 35) [] [])) [(.tmp 33), (.tmp 34)], some (31, false)⟩,
              ⟨some 36, .call (.val (.fn (.func 31) [] [])) [(.tmp 32), (.tmp 35)], some (31, false)⟩,
              ⟨some 37, .un .not (.tmp 36), some (31, false)⟩,
              ⟨some 38, .pick (.tmp 31) (.val (.lit (.bool true))) (.tmp 37), none⟩]) (
           .cond (.tmp 38) (
             .seq (
              .ops [⟨some 4, .val (.val (.lit (.bool false))), none⟩]) (
             .ret)) (
             .skip))) (
          .seq (
           .seq (
            .ops [⟨some 9, .val (.val (.lit (.int .i64 0))), none⟩]) (
           .block 2 (
             .loop a_bobbinlaw13_FrontTellsb3))) (
          .seq (
           .ops [⟨some 11, .val (.val (.lit (.int .i64 0))), none⟩]) (
          .block 6 (
            .loop a_bobbinlaw13_FrontTellsb1)))))))) (
       .ops [⟨some 19, .val (.tmp 6), none⟩,
         ⟨some 20, .bin .add .num (.tmp 19) (.val (.lit (.int .i64 1))), none⟩,
         ⟨some 6, .val (.tmp 20), none⟩]))

def a_bobbinlaw13_FrontTells : ACode :=
  .seq (
   .ops [⟨some 4, .val (.val (.lit (.bool false))), none⟩]) (
  .seq (
   .seq (
    .ops [⟨some 12, .val (.tmp 0), none⟩,
      ⟨some 13, .val (.tmp 1), none⟩,
      ⟨some 14, .call (.val (.fn (.func 32) [] [])) [(.tmp 12), (.tmp 13)], none⟩]) (
   .cond (.tmp 14) (
     .seq (
      .ops [⟨some 4, .val (.val (.lit (.bool true))), none⟩]) (
     .ret)) (
     .skip))) (
  .seq (
   .ops [⟨some 15, .val (.tmp 0), none⟩,
     ⟨some 16, .call (.val (.fn (.func 33) [] [])) [(.tmp 15)], none⟩,
     ⟨some 5, .val (.tmp 16), none⟩]) (
  .seq (
   .seq (
    .ops [⟨some 6, .val (.val (.lit (.int .i64 0))), none⟩]) (
   .block 0 (
     .loop a_bobbinlaw13_FrontTellsb4))) (
  .seq (
   .ops [⟨some 4, .val (.val (.lit (.bool true))), none⟩]) (
  .ret)))))

theorem c_bobbinlaw13_FrontTells : codeOf Try.prog {  } 10 = some (a_bobbinlaw13_FrontTells, [.tmp 4], 79) := by kernel_rfl

/-- bobbin/bobbinlaw13.FrontNames -/
def a_bobbinlaw13_FrontNames : ACode :=
  .seq (
   .ops [⟨some 0, .val (.val (.lit (.bool false))), none⟩]) (
  .seq (
   .seq (
    .ops [⟨some 4, .call (.val (.fn (.func 28) [] [])) [], none⟩,
      ⟨some 5, .un .not (.tmp 4), none⟩]) (
   .cond (.tmp 5) (
     .seq (
      .ops [⟨some 0, .val (.val (.lit (.bool false))), none⟩]) (
     .ret)) (
     .skip))) (
  .seq (
   .ops [⟨some 6, .bslice false 1 1 [(.lit (.int .i64 0))] [(0, 1, (.val (.lit (.int .i64 0))))], none⟩,
     ⟨some 7, .bslice false 1 1 [(.sl .nil 0 [])] [(0, 1, (.tmp 6))], none⟩,
     ⟨some 1, .val (.tmp 7), none⟩]) (
  .seq (
   .ops [⟨some 8, .bslice false 1 1 [(.lit (.int .i64 0))] [(0, 1, (.val (.lit (.int .i64 1))))], none⟩,
     ⟨some 9, .bslice false 1 0 [] [], none⟩,
     ⟨some 10, .bslice false 1 1 [(.lit (.int .i64 0))] [(0, 1, (.val (.lit (.int .i64 1))))], none⟩,
     ⟨some 11, .bslice false 1 1 [(.lit (.int .i64 0))] [(0, 1, (.val (.lit (.int .i64 3))))], none⟩,
     ⟨some 12, .bslice false 1 4 [(.sl .nil 0 []), (.sl .nil 0 []), (.sl .nil 0 []), (.sl .nil 0 [])] [(0, 1, (.tmp 8)), (1, 1, (.tmp 9)), (2, 1, (.tmp 10)), (3, 1, (.tmp 11))], none⟩,
     ⟨some 2, .val (.tmp 12), none⟩]) (
  .seq (
   .ops [⟨some 13, .bslice false 1 2 [(.lit (.int .i64 0)), (.lit (.int .i64 0))] [(0, 1, (.val (.lit (.int .i64 1)))), (1, 1, (.val (.lit (.int .i64 5))))], none⟩,
     ⟨some 14, .bslice false 1 2 [(.lit (.int .i64 0)), (.lit (.int .i64 0))] [(0, 1, (.val (.lit (.int .i64 2)))), (1, 1, (.val (.lit (.int .i64 3))))], none⟩,
     ⟨some 15, .bslice false 1 1 [(.lit (.int .i64 0))] [(0, 1, (.val (.lit (.int .i64 4))))], none⟩,
     ⟨some 16, .bslice false 1 1 [(.lit (.int .i64 0))] [(0, 1, (.val (.lit (.int .i64 4))))], none⟩,
     ⟨some 17, .bslice false 1 2 [(.lit (.int .i64 0)), (.lit (.int .i64 0))] [(0, 1, (.val (.lit (.int .i64 1)))), (1, 1, (.val (.lit (.int .i64 5))))], none⟩,
     ⟨some 18, .bslice false 1 0 [] [], none⟩,
     ⟨some 19, .bslice false 1 6 [(.sl .nil 0 []), (.sl .nil 0 []), (.sl .nil 0 []), (.sl .nil 0 []), (.sl .nil 0 []), (.sl .nil 0 [])] [(0, 1, (.tmp 13)), (1, 1, (.tmp 14)), (2, 1, (.tmp 15)), (3, 1, (.tmp 16)), (4, 1, (.tmp 17)), (5, 1, (.tmp 18))], none⟩,
     ⟨some 3, .val (.tmp 19), none⟩]) (
  .seq (
   .ops [⟨some 20, .val (.tmp 1), none⟩,
     ⟨some 21, .bslice false 1 1 [(.lit (.int .i64 0))] [(0, 1, (.val (.lit (.int .i64 0))))], none⟩,
     ⟨some 22, .bslice false 1 1 [(.sl .nil 0 [])] [(0, 1, (.tmp 21))], none⟩,
     ⟨some 23, .call (.val (.fn (.func 29) [] [])) [(.tmp 20), (.tmp 22)], none⟩,
     ⟨some 24, .val (.tmp 23), none⟩,
     ⟨some 25, .call (.val (.fn (.func 29) [] [])) [(.val (.sl .nil 0 [])), (.val (.sl .nil 0 []))], some (24, true)⟩,
     ⟨some 26, .pick (.tmp 24) (.tmp 25) (.val (.lit (.bool false))), none⟩,
     ⟨some 27, .val (.tmp 26), none⟩,
     ⟨some 28, .bslice false 1 1 [(.lit (.int .i64 0))] [(0, 1, (.val (.lit (.int .i64 1))))], some (27, true)⟩,
     ⟨some 29, .bslice false 1 1 [(.sl .nil 0 [])] [(0, 1, (.tmp 28))], some (27, true)⟩,
     ⟨some 30, .call (.val (.fn (.func 29) [] [])) [(.tmp 29), (.val (.sl .nil 0 []))], some (27, true)⟩,
     ⟨some 31, .pick (.tmp 27) (.tmp 30) (.val (.lit (.bool false))), none⟩,
     ⟨some 32, .val (.tmp 31), none⟩,
     ⟨some 33, .bslice false 1 0 [] [], some (32, true)⟩,
     ⟨some 34, .bslice false 1 1 [(.sl .nil 0 [])] [(0, 1, (.tmp 33))], some (32, true)⟩,
     ⟨some 35, .bslice false 1 1 [(.sl .nil 0 [])] [(0, 1, (.val (.sl .nil 0 [])))], some (32, true)⟩,
     ⟨some 36, .call (.val (.fn (.func 29) [] [])) [(.tmp 34), (.tmp 35)], some (32, true)⟩,
     ⟨some 37, .pick (.tmp 32) (.tmp 36) (.val (.lit (.bool false))), none⟩,
     ⟨some 38, .val (.tmp 37), none⟩,
     ⟨some 39, .val (.tmp 2), some (38, true)⟩,
     ⟨some 40, .bslice false 1 4 [(.sl .nil 0 []), (.sl .nil 0 []), (.sl .nil 0 []), (.sl .nil 0 [])] [(0, 1, (.val (.sl .nil 0 []))), (1, 1, (.val (.sl .nil 0 []))), (2, 1, (.val (.sl .nil 0 []))), (3, 1, (.val (.sl .nil 0 [])))], some (38, true)⟩,
     ⟨some 41, .call (.val (.fn (.func 29) [] [])) [(.tmp 39), (.tmp 40)], some (38, true)⟩,
     ⟨some 42, .pick (.tmp 38) (.tmp 41) (.val (.lit (.bool false))), none⟩,
     ⟨some 43, .val (.tmp 42), none⟩,
     ⟨some 44, .val (.tmp 2), some (43, true)⟩,
     ⟨some 45, .bslice false 1 2 [(.lit (.int .i64 0)), (.lit (.int .i64 0))] [(0, 1, (.val (.lit (.int .i64 2)))), (1, 1, (.val (.lit (.int .i64 3))))], some (43, true)⟩,
     ⟨some 46, .call (.val (.fn (.func 30) [] [])) [(.tmp 44), (.tmp 45)], some (43, true)⟩,
     ⟨some 47, .len 1 (.tmp 46), some (43, true)⟩,
     ⟨some 48, .bin .eql .num (.tmp 47) (.val (.lit (.int .i64 0))), some (43, true)⟩,
     ⟨some 49, .pick (.tmp 43) (.tmp 48) (.val (.lit (.bool false))), none⟩,
     ⟨some 50, .val (.tmp 49), none⟩,
     ⟨some 51, .val (.tmp 3), some (50, true)⟩,
     ⟨some 52, .bslice false 1 2 [(.lit (.int .i64 0)), (.lit (.int .i64 0))] [(0, 1, (.val (.lit (.int .i64 1)))), (1, 1, (.val (.lit (.int .i64 5))))], some (50, true)⟩,
     ⟨some 53, .bslice false 1 1 [(.lit (.int .i64 0))] [(0, 1, (.val (.lit (.int .i64 4))))], some (50, true)⟩,
     ⟨some 54, .bslice false 1 1 [(.lit (.int .i64 0))] [(0, 1, (.val (.lit (.int .i64 4))))], some (50, true)⟩,
     ⟨some 55, .bslice false 1 2 [(.lit (.int .i64 0)), (.lit (.int .i64 0))] [(0, 1, (.val (.lit (.int .i64 1)))), (1, 1, (.val (.lit (.int .i64 5))))], some (50, true)⟩,
     ⟨some 56, .bslice false 1 6 [(.sl .nil 0 []), (.sl .nil 0 []), (.sl .nil 0 []), (.sl .nil 0 []), (.sl .nil 0 []), (.sl .nil 0 [])] [(0, 1, (.val (.sl .nil 0 []))), (1, 1, (.tmp 52)), (2, 1, (.tmp 53)), (3, 1, (.tmp 54)), (4, 1, (.tmp 55)), (5, 1, (.val (.sl .nil 0 [])))], some (50, true)⟩,
     ⟨some 57, .call (.val (.fn (.func 29) [] [])) [(.tmp 51), (.tmp 56)], some (50, true)⟩,
     ⟨some 58, .pick (.tmp 50) (.tmp 57) (.val (.lit (.bool false))), none⟩,
     ⟨some 59, .val (.tmp 58), none⟩,
     ⟨some 60, .val (.tmp 3), some (59, true)⟩,
     ⟨some 61, .bslice false 1 1 [(.lit (.int .i64 0))] [(0, 1, (.val (.lit (.int .i64 2))))], some (59, true)⟩,
     ⟨some 62, .call (.val (.fn (.func 30) [] [])) [(.tmp 60), (.tmp 61)], some (59, true)⟩,
     ⟨some 63, .bslice false 1 3 [(.lit (.int .i64 0)), (.lit (.int .i64 0)), (.lit (.int .i64 0))] [(0, 1, (.val (.lit (.int .i64 1)))), (1, 1, (.val (.lit (.int .i64 4)))), (2, 1, (.val (.lit (.int .i64 5))))], some (59, true)⟩,
     ⟨some 64, .call (.val (.fn (.func 31) [] [])) [(.tmp 62), (.tmp 63)], some (59, true)⟩,
     ⟨some 65, .pick (.tmp 59) (.tmp 64) (.val (.lit (.bool false))), none⟩,
     ⟨some 66, .val (.tmp 65), none⟩,
     ⟨some 67, .val (.tmp 3), some (66, true)⟩,
     ⟨some 68, .bslice false 1 1 [(.lit (.int .i64 0))] [(0, 1, (.val (.lit (.int .i64 5))))], some (66, true)⟩,
     ⟨some 69, .call (.val (.fn (.func 30) [] [])) [(.tmp 67), (.tmp 68)], some (66, true)⟩,
     ⟨some 70, .call (.val (.fn (.func 31) [] [])) [(.tmp 69), (.val (.sl .nil 0 []))], some (66, true)⟩,
     ⟨some 71, .pick (.tmp 66) (.tmp 70) (.val (.lit (.bool false))), none⟩,
     ⟨some 72, .val (.tmp 71), none⟩,
     ⟨some 73, .val (.tmp 3), some (72, true)⟩,
     ⟨some 74, .bslice false 1 2 [(.lit (.int .i64 0)), (.lit (.int .i64 0))] [(0, 1, (.val (.lit (.int .i64 5)))), (1, 1, (.val (.lit (.int .i64 2))))], some (72, true)⟩,
     ⟨some 75, .call (.val (.fn (.func 30) [] [])) [(.tmp 73), (.tmp 74)], some (72, true)⟩,
     ⟨some 76, .bslice false 1 3 [(.lit (.int .i64 0)), (.lit (.int .i64 0)), (.lit (.int .i64 0))] [(0, 1, (.val (.lit (.int .i64 1)))), (1, 1, (.val (.lit (.int .i64 4)))), (2, 1, (.val (.lit (.int .i64 5))))], some (72, true)⟩,
     ⟨some 77, .call (.val (.fn (.func 31) [] [])) [(.tmp 75), (.tmp 76)], some (72, true)⟩,
     ⟨some 78, .pick (.tmp 72) (.tmp 77) (.val (.lit (.bool false))), none⟩,
     ⟨some 79, .val (.tmp 78), none⟩,
     ⟨some 80, .val (.tmp 3), some (79, true)⟩,
     ⟨some 81, .bslice false 1 3 [(.lit (.int .i64 0)), (.lit (.int .i64 0)), (.lit (.int .i64 0))] [(0, 1, (.val (.lit (.int .i64 (-1))))), (1, 1, (.val (.lit (.int .i64 6)))), (2, 1, (.val (.lit (.int .i64 99))))], some (79, true)⟩,
     ⟨some 82, .call (.val (.fn (.func 30) [] [])) [(.tmp 80), (.tmp 81)], some (79, true)⟩,
     ⟨some 83, .call (.val (.fn (.func 31) [] [])) [(.tmp 82), (.val (.sl .nil 0 []))], some (79, true)⟩,
     ⟨some 84, .pick (.tmp 79) (.tmp 83) (.val (.lit (.bool false))), none⟩,
     ⟨some 85, .val (.tmp 84), none⟩,
     ⟨some 86, .bslice false 1 1 [(.lit (.int .i64 0))] [(0, 1, (.val (.lit (.int .i64 0))))], some (85, true)⟩,
     ⟨some 87, .call (.val (.fn (.func 30) [] [])) [(.val (.sl .nil 0 [])), (.tmp 86)], some (85, true)⟩,
     ⟨some 88, .len 1 (.tmp 87), some (85, true)⟩,
     ⟨some 89, .bin .eql .num (.tmp 88) (.val (.lit (.int .i64 0))), some (85, true)⟩,
     ⟨some 90, .pick (.tmp 85) (.tmp 89) (.val (.lit (.bool false))), none⟩,
     ⟨some 91, .val (.tmp 90), none⟩,
     ⟨some 92, .bslice false 1 2 [(.lit (.int .i64 0)), (.lit (.int .i64 0))] [(0, 1, (.val (.lit (.int .i64 1)))), (1, 1, (.val (.lit (.int .i64 1))))], some (91, true)⟩,
     ⟨some 93, .bslice false 1 0 [] [], some (91, true)⟩,
     ⟨some 94, .bslice false 1 2 [(.sl .nil 0 []), (.sl .nil 0 [])] [(0, 1, (.tmp 92)), (1, 1, (.tmp 93))], some (91, true)⟩,
     ⟨some 95, .bslice false 1 2 [(.sl .nil 0 []), (.sl .nil 0 [])] [(0, 1, (.val (.sl .nil 0 []))), (1, 1, (.val (.sl .nil 0 [])))], some (91, true)⟩,
     ⟨some 96, .call (.val (.fn (.func 29) [] [])) [(.tmp 94), (.tmp 95)], some (91, true)⟩,
     ⟨some 97, .pick (.tmp 91) (.tmp 96) (.val (.lit (.bool false))), none⟩,
     ⟨some 98, .val (.tmp 97), none⟩,
     ⟨some 99, .bslice false 1 1 [(.lit (.int .i64 0))] [(0, 1, (.val (.lit (.int .i64 1))))], some (98, true)⟩,
     ⟨some 100, .bslice false 1 2 [(.lit (.int .i64 0)), (.lit (.int .i64 0))] [(0, 1, (.val (.lit (.int .i64 0)))), (1, 1, (.val (.lit (.int .i64 2))))], some (98, true)⟩,
     ⟨some 101, .bslice false 1 0 [] [], some (98, true)⟩,
     ⟨some 102, .bslice false 1 3 [(.sl .nil 0 []), (.sl .nil 0 []), (.sl .nil 0 [])] [(0, 1, (.tmp 99)), (1, 1, (.tmp 100)), (2, 1, (.tmp 101))], some (98, true)⟩,
     ⟨some 103, .bslice false 1 1 [(.lit (.int .i64 0))] [(0, 1, (.val (.lit (.int .i64 0))))], some (98, true)⟩,
     ⟨some 104, .bslice false 1 1 [(.lit (.int .i64 0))] [(0, 1, (.val (.lit (.int .i64 0))))], some (98, true)⟩,
     ⟨some 105, .bslice false 1 3 [(.sl .nil 0 []), (.sl .nil 0 []), (.sl .nil 0 [])] [(0, 1, (.tmp 103)), (1, 1, (.tmp 104)), (2, 1, (.val (.sl .nil 0 [])))], some (98, true)⟩,
     ⟨some 106, .call (.val (.fn (.func 29) [] [])) [(.tmp 102), (.tmp 105)], some (98, true)⟩,
     ⟨some 107, .pick (.tmp 98) (.tmp 106) (.val (.lit (.bool false))), none⟩,
     ⟨some 0, .val (.tmp 107), none⟩]) (
  .ret))))))

theorem c_bobbinlaw13_FrontNames : codeOf Try.prog {  } 9 = some (a_bobbinlaw13_FrontNames, [.tmp 0], 108) := by kernel_rfl

/-- bobbin/bobbinlaw13.FrontOne -/
def a_bobbinlaw13_FrontOneb1 : ACode :=
              .seq (
               .seq (
                .ops [⟨some 204, .val (.tmp 21), none⟩,
                  ⟨some 205, .val (.tmp 0), none⟩,
                  ⟨some 206, .len 1 (.tmp 205), none⟩,
                  ⟨some 207, .bin .lss .num (.tmp 204) (.tmp 206), none⟩]) (
               .cond (.tmp 207) (
                 .skip) (
                 .exit 8))) (
              .seq (
               .block 9 (
                 .seq (
                  .ops [⟨some 210, .val (.tmp 17), none⟩,
                    ⟨some 211, .val (.tmp 21), none⟩,
                    ⟨some 212, .indexAddr 1 (.tmp 210) (.tmp 211), none⟩,
                    ⟨some 213, .load false 1 (.tmp 212), none⟩,
                    ⟨some 214, .val (.tmp 18), none⟩,
                    ⟨some 215, .call (.val (.fn (.func 36) [] [])) [(.tmp 213), (.tmp 214)], none⟩,
                    ⟨some 216, .val (.tmp 215), none⟩,
                    ⟨some 217, .val (.tmp 7), some (216, true)⟩,
                    ⟨some 218, .val (.tmp 21), some (216, true)⟩,
                    ⟨some 219, .call (.val (.fn (.func 21) [] [])) [(.tmp 217), (.tmp 218)], some (216, true)⟩,
                    ⟨some 220, .un .not (.tmp 219), some (216, true)⟩,
                    ⟨some 221, .val (.tmp 220), some (216, true)⟩,
                    ⟨some 222, .val (.tmp 7), some (221, false)⟩,
                    ⟨some 223, .val (.tmp 18), some (221, false)⟩,
                    ⟨some 224, .call (.val (.fn (.func 21) [] [])) [(.tmp 222), (.tmp 223)], some (221, false)⟩,
                    ⟨some 225, .un .not (.tmp 224), some (221, false)⟩,
                    ⟨some 226, .pick (.tmp 221) (.val (.lit (.bool true))) (.tmp 225), some (216, true)⟩,
                    ⟨some 227, .val (.tmp 226), some (216, true)⟩,
                    ⟨some 228, .val (.tmp 18), some (227, false)⟩,
                    ⟨some 229, .bin .neq .num (.tmp 228) (.val (.lit (.int .i64 0))), some (227, false)⟩,
                    ⟨some 230, .val (.tmp 229), some (227, false)⟩,
                    ⟨some 231, .val (.tmp 19), some (230, true)⟩,
                    ⟨some 232, .bin .lss .num (.tmp 231) (.val (.lit (.int .i64 2))), some (230, true)⟩,
                    ⟨some 233, .pick (.tmp 230) (.tmp 232) (.val (.lit (.bool false))), some (227, false)⟩,
                    ⟨some 234, .pick (.tmp 227) (.val (.lit (.bool true))) (.tmp 233), some (216, true)⟩,
                    ⟨some 235, .pick (.tmp 216) (.tmp 234) (.val (.lit (.bool false))), none⟩]) (
                 .cond (.tmp 235) (
                   .seq (
                    .ops [⟨some 6, .val (.val (.lit (.bool false))), none⟩]) (
                   .ret)) (
                   .skip)))) (
              .ops [⟨some 208, .val (.tmp 21), none⟩,
                ⟨some 209, .bin .add .num (.tmp 208) (.val (.lit (.int .i64 1))), none⟩,
                ⟨some 21, .val (.tmp 209), none⟩]))

def a_bobbinlaw13_FrontOneb2 : ACode :=
               .seq (
                .seq (
                 .ops [⟨some 151, .val (.tmp 20), none⟩,
                   ⟨some 152, .val (.tmp 0), none⟩,
                   ⟨some 153, .len 1 (.tmp 152), none⟩,
                   ⟨some 154, .bin .lss .num (.tmp 151) (.tmp 153), none⟩]) (
                .cond (.tmp 154) (
                  .skip) (
                  .exit 6))) (
               .seq (
                .block 7 (
                  .seq (
                   .seq (
                    .ops [⟨some 157, .val (.tmp 7), none⟩,
                      ⟨some 158, .val (.tmp 20), none⟩,
                      ⟨some 159, .call (.val (.fn (.func 21) [] [])) [(.tmp 157), (.tmp 158)], none⟩,
                      ⟨some 160, .un .not (.tmp 159), none⟩,
                      ⟨some 161, .val (.tmp 160), none⟩,
                      ⟨some 162, .val (.tmp 0), some (161, false)⟩,
                      ⟨some 163, .val (.tmp 20), some (161, false)⟩,
                      ⟨some 164, .indexAddr 1 (.tmp 162) (.tmp 163), some (161, false)⟩,
                      ⟨some 165, .load false 1 (.tmp 164), some (161, false)⟩,
                      ⟨some 166, .val (.tmp 18), some (161, false)⟩,
                      ⟨some 167, .call (.val (.fn (.func 36) [] [])) [(.tmp 165), (.tmp 166)], some (161, false)⟩,
                      ⟨some 168, .un .not (.tmp 167), some (161, false)⟩,
                      ⟨some 169, .pick (.tmp 161) (.val (.lit (.bool true))) (.tmp 168), none⟩]) (
                   .cond (.tmp 169) (
                     .exit 7) (
                     .skip))) (
                  .seq (
                   .ops [⟨some 170, .val (.tmp 19), none⟩,
                     ⟨some 171, .bin .add .num (.tmp 170) (.val (.lit (.int .i64 1))), none⟩,
                     ⟨some 19, .val (.tmp 171), none⟩]) (
                  .seq (
                   .bad) (
                  .cond (.tmp 203) (
                    .seq (
                     .ops [⟨some 6, .val (.val (.lit (.bool false))), none⟩]) (
                    .ret)) (
                    .skip)))))) (
               .ops [⟨some 155, .val (.tmp 20), none⟩,
                 ⟨some 156, .bin .add .num (.tmp 155) (.val (.lit (.int .i64 1))), none⟩,
                 ⟨some 20, .val (.tmp 156), none⟩]))

def a_bobbinlaw13_FrontOneb3 : ACode :=
       .seq (
        .seq (
         .ops [⟨some 145, .val (.tmp 18), none⟩,
           ⟨some 146, .val (.tmp 0), none⟩,
           ⟨some 147, .len 1 (.tmp 146), none⟩,
           ⟨some 148, .bin .lss .num (.tmp 145) (.tmp 147), none⟩]) (
        .cond (.tmp 148) (
          .skip) (
          .exit 4))) (
       .seq (
        .block 5 (
          .seq (
           .ops [⟨some 19, .val (.val (.lit (.int .i64 0))), none⟩]) (
          .seq (
           .seq (
            .ops [⟨some 20, .val (.val (.lit (.int .i64 0))), none⟩]) (
           .block 6 (
             .loop a_bobbinlaw13_FrontOneb2))) (
          .seq (
           .ops [⟨some 21, .val (.val (.lit (.int .i64 0))), none⟩]) (
          .block 8 (
            .loop a_bobbinlaw13_FrontOneb1)))))) (
       .ops [⟨some 149, .val (.tmp 18), none⟩,
         ⟨some 150, .bin .add .num (.tmp 149) (.val (.lit (.int .i64 1))), none⟩,
         ⟨some 18, .val (.tmp 150), none⟩]))

def a_bobbinlaw13_FrontOneb4 : ACode :=
       .seq (
        .seq (
         .ops [⟨some 106, .val (.tmp 15), none⟩,
           ⟨some 107, .val (.tmp 14), none⟩,
           ⟨some 108, .len 1 (.tmp 107), none⟩,
           ⟨some 109, .bin .lss .num (.tmp 106) (.tmp 108), none⟩]) (
        .cond (.tmp 109) (
          .skip) (
          .exit 2))) (
       .seq (
        .block 3 (
          .seq (
           .ops [⟨some 112, .val (.tmp 14), none⟩,
             ⟨some 113, .val (.tmp 15), none⟩,
             ⟨some 114, .indexAddr 1 (.tmp 112) (.tmp 113), none⟩,
             ⟨some 115, .load false 1 (.tmp 114), none⟩,
             ⟨some 16, .val (.tmp 115), none⟩]) (
          .seq (
           .ops [⟨some 116, .val (.tmp 13), none⟩,
             ⟨some 117, .val (.tmp 16), none⟩,
             ⟨some 118, .val (.tmp 16), none⟩,
             ⟨some 119, .indexAddr 1 (.tmp 116) (.tmp 117), none⟩,
             ⟨none, .store 1 (.tmp 119) (.tmp 118), none⟩]) (
          .seq (
           .ops [⟨some 120, .val (.tmp 16), none⟩,
             ⟨some 121, .bin .neq .num (.tmp 120) (.val (.lit (.int .i64 0))), none⟩,
             ⟨some 122, .val (.tmp 121), none⟩,
             ⟨some 123, .val (.tmp 1), some (122, true)⟩,
             ⟨some 124, .val (.tmp 16), some (122, true)⟩,
             ⟨some 125, .call (.val (.fn (.func 36) [] [])) [(.tmp 123), (.tmp 124)], some (122, true)⟩,
             ⟨some 126, .un .not (.tmp 125), some (122, true)⟩,
             ⟨some 127, .pick (.tmp 122) (.tmp 126) (.val (.lit (.bool false))), none⟩,
             ⟨some 128, .val (.tmp 127), none⟩,
             ⟨some 129, .val (.tmp 9), some (128, true)⟩,
             ⟨some 130, .val (.tmp 16), some (128, true)⟩,
             ⟨some 131, .call (.val (.fn (.func 36) [] [])) [(.tmp 129), (.tmp 130)], some (128, true)⟩,
             ⟨some 132, .un .not (.tmp 131), some (128, true)⟩,
             ⟨some 133, .pick (.tmp 128) (.tmp 132) (.val (.lit (.bool false))), none⟩]) (
          .cond (.tmp 133) (
            .ops [⟨some 134, .val (.tmp 13), none⟩,
              ⟨some 135, .val (.tmp 16), none⟩,
              ⟨some 136, .val (.tmp 13), none⟩,
              ⟨some 137, .val (.tmp 7), none⟩,
              ⟨some 138, .val (.tmp 16), none⟩,
              ⟨some 139, .call (.val (.fn (.func 22) [] [])) [(.tmp 137), (.tmp 138)], none⟩,
              ⟨some 140, .indexAddr 1 (.tmp 136) (.tmp 139), none⟩,
              ⟨some 141, .load false 1 (.tmp 140), none⟩,
              ⟨some 142, .indexAddr 1 (.tmp 134) (.tmp 135), none⟩,
              ⟨none, .store 1 (.tmp 142) (.tmp 141), none⟩]) (
            .skip)))))) (
       .ops [⟨some 110, .val (.tmp 15), none⟩,
         ⟨some 111, .bin .add .num (.tmp 110) (.val (.lit (.int .i64 1))), none⟩,
         ⟨some 15, .val (.tmp 111), none⟩]))

def a_bobbinlaw13_FrontOneb5 : ACode :=
       .seq (
        .seq (
         .ops [⟨some 72, .val (.tmp 12), none⟩,
           ⟨some 73, .val (.tmp 9), none⟩,
           ⟨some 74, .len 1 (.tmp 73), none⟩,
           ⟨some 75, .bin .lss .num (.tmp 72) (.tmp 74), none⟩]) (
        .cond (.tmp 75) (
          .skip) (
          .exit 0))) (
       .seq (
        .block 1 (
          .seq (
           .ops [⟨some 78, .val (.tmp 11), none⟩,
             ⟨some 79, .val (.tmp 9), none⟩,
             ⟨some 80, .val (.tmp 12), none⟩,
             ⟨some 81, .indexAddr 1 (.tmp 79) (.tmp 80), none⟩,
             ⟨some 82, .load false 1 (.tmp 81), none⟩,
             ⟨some 83, .call (.val (.fn (.func 36) [] [])) [(.tmp 78), (.tmp 82)], none⟩,
             ⟨some 84, .un .not (.tmp 83), none⟩,
             ⟨some 85, .val (.tmp 84), none⟩,
             ⟨some 86, .val (.tmp 12), some (85, false)⟩,
             ⟨some 87, .bin .gtr .num (.tmp 86) (.val (.lit (.int .i64 0))), some (85, false)⟩,
             ⟨some 88, .val (.tmp 87), some (85, false)⟩,
             ⟨some 89, .val (.tmp 9), some (88, true)⟩,
             ⟨some 90, .val (.tmp 12), some (88, true)⟩,
             ⟨some 91, .indexAddr 1 (.tmp 89) (.tmp 90), some (88, true)⟩,
             ⟨some 93, .val (.tmp 9), some (88, true)⟩,
             ⟨some 94, .val (.tmp 12), some (88, true)⟩,
             ⟨some 95, .bin .sub .num (.tmp 94) (.val (.lit (.int .i64 1))), some (88, true)⟩,
             ⟨some 96, .indexAddr 1 (.tmp 93) (.tmp 95), some (88, true)⟩,
             ⟨some 92, .load false 1 (.tmp 91), some (88, true)⟩,
             ⟨some 97, .load false 1 (.tmp 96), some (88, true)⟩,
             ⟨some 98, .bin .leq .num (.tmp 92) (.tmp 97), some (88, true)⟩,
             ⟨some 99, .pick (.tmp 88) (.tmp 98) (.val (.lit (.bool false))), some (85, false)⟩,
             ⟨some 100, .pick (.tmp 85) (.val (.lit (.bool true))) (.tmp 99), none⟩]) (
          .cond (.tmp 100) (
            .seq (
             .ops [⟨some 6, .val (.val (.lit (.bool false))), none⟩]) (
            .ret)) (
            .skip)))) (
       .ops [⟨some 76, .val (.tmp 12), none⟩,
         ⟨some 77, .bin .add .num (.tmp 76) (.val (.lit (.int .i64 1))), none⟩,
         ⟨some 12, .val (.tmp 77), none⟩]))

def a_bobbinlaw13_FrontOne : ACode :=
  .seq (
   .ops [⟨some 6, .val (.val (.lit (.bool false))), none⟩]) (
  .seq (
   .seq (
    .ops [⟨some 22, .call (.val (.fn (.func 28) [] [])) [], none⟩,
      ⟨some 23, .un .not (.tmp 22), none⟩,
      ⟨some 24, .val (.tmp 23), none⟩,
      ⟨some 25, .val (.tmp 0), some (24, false)⟩,
      ⟨some 26, .val (.tmp 1), some (24, false)⟩,
      ⟨some 27, .call (.val (.fn (.func 32) [] [])) [(.tmp 25), (.tmp 26)], some (24, false)⟩,
      ⟨some 28, .pick (.tmp 24) (.val (.lit (.bool true))) (.tmp 27), none⟩,
      ⟨some 29, .val (.tmp 28), none⟩,
      ⟨some 30, .val (.tmp 2), some (29, false)⟩,
      ⟨some 31, .len 1 (.tmp 30), some (29, false)⟩,
      ⟨some 32, .bin .gtr .num (.tmp 31) (.val (.lit (.int .i64 400))), some (29, false)⟩,
      ⟨some 33, .pick (.tmp 29) (.val (.lit (.bool true))) (.tmp 32), none⟩]) (
   .cond (.tmp 33) (
     .seq (
      .ops [⟨some 34, .call (.val (.fn (.func 28) [] [])) [], none⟩,
        ⟨some 6, .val (.tmp 34), none⟩]) (
     .ret)) (
     .skip))) (
  .seq (
   .ops [⟨some 36, .val (.tmp 0), none⟩,
     ⟨some 37, .call (.val (.fn (.func 16) [] [])) [(.tmp 36)], none⟩,
     ⟨some 35, .val (.tmp 37), none⟩,
     ⟨some 38, .extract (.tmp 35) 0, none⟩,
     ⟨some 39, .extract (.tmp 35) 1, none⟩,
     ⟨some 7, .val (.tmp 38), none⟩,
     ⟨some 8, .val (.tmp 39), none⟩]) (
  .seq (
   .ops [⟨some 40, .val (.tmp 0), none⟩,
     ⟨some 41, .val (.tmp 1), none⟩,
     ⟨some 42, .call (.val (.fn (.func 30) [] [])) [(.tmp 40), (.tmp 41)], none⟩,
     ⟨some 9, .val (.tmp 42), none⟩]) (
  .seq (
   .seq (
    .ops [⟨some 43, .val (.tmp 8), none⟩,
      ⟨some 44, .bin .neq .num (.tmp 43) (.val (.lit (.int .i64 0))), none⟩]) (
   .cond (.tmp 44) (
     .seq (
      .ops [⟨some 45, .val (.tmp 9), none⟩,
        ⟨some 46, .len 1 (.tmp 45), none⟩,
        ⟨some 47, .bin .eql .num (.tmp 46) (.val (.lit (.int .i64 0))), none⟩,
        ⟨some 6, .val (.tmp 47), none⟩]) (
     .ret)) (
     .skip))) (
  .seq (
   .ops [⟨some 48, .val (.tmp 0), none⟩,
     ⟨some 49, .bslice false 1 0 [] [], none⟩,
     ⟨some 50, .val (.tmp 1), none⟩,
     ⟨some 51, .append false 1 8 (.tmp 49) (.tmp 50), none⟩,
     ⟨some 52, .val (.tmp 9), none⟩,
     ⟨some 53, .append false 1 8 (.tmp 51) (.tmp 52), none⟩,
     ⟨some 54, .call (.val (.fn (.func 30) [] [])) [(.tmp 48), (.tmp 53)], none⟩,
     ⟨some 10, .val (.tmp 54), none⟩]) (
  .seq (
   .ops [⟨some 55, .val (.tmp 0), none⟩,
     ⟨some 56, .bslice false 1 0 [] [], none⟩,
     ⟨some 57, .val (.tmp 1), none⟩,
     ⟨some 58, .append false 1 8 (.tmp 56) (.tmp 57), none⟩,
     ⟨some 59, .val (.tmp 2), none⟩,
     ⟨some 60, .append false 1 8 (.tmp 58) (.tmp 59), none⟩,
     ⟨some 61, .call (.val (.fn (.func 30) [] [])) [(.tmp 55), (.tmp 60)], none⟩,
     ⟨some 11, .val (.tmp 61), none⟩]) (
  .seq (
   .seq (
    .ops [⟨some 62, .val (.tmp 10), none⟩,
      ⟨some 63, .val (.tmp 9), none⟩,
      ⟨some 64, .call (.val (.fn (.func 31) [] [])) [(.tmp 62), (.tmp 63)], none⟩,
      ⟨some 65, .un .not (.tmp 64), none⟩,
      ⟨some 66, .val (.tmp 65), none⟩,
      ⟨some 67, .val (.tmp 0), some (66, false)⟩,
      ⟨some 68, .call (.val (.fn (.func 30) [] [])) [(.tmp 67), (.val (.sl .nil 0 []))], some (66, false)⟩,
      ⟨some 69, .len 1 (.tmp 68), some (66, false)⟩,
      ⟨some 70, .bin .neq .num (.tmp 69) (.val (.lit (.int .i64 0))), some (66, false)⟩,
      ⟨some 71, .pick (.tmp 66) (.val (.lit (.bool true))) (.tmp 70), none⟩]) (
   .cond (.tmp 71) (
     .seq (
      .ops [⟨some 6, .val (.val (.lit (.bool false))), none⟩]) (
     .ret)) (
     .skip))) (
  .seq (
   .seq (
    .ops [⟨some 12, .val (.val (.lit (.int .i64 0))), none⟩]) (
   .block 0 (
     .loop a_bobbinlaw13_FrontOneb5))) (
  .seq (
   .ops [⟨some 101, .val (.tmp 0), none⟩,
     ⟨some 102, .len 1 (.tmp 101), none⟩,
     ⟨some 103, .mkslice 1 8 [(.lit (.int .i64 0))] (.tmp 102) (.tmp 102), none⟩,
     ⟨some 13, .val (.tmp 103), none⟩]) (
  .seq (
   .ops [⟨some 104, .val (.tmp 7), none⟩,
     ⟨some 105, .call (.val (.fn (.func 19) [] [])) [(.tmp 104)], none⟩,
     ⟨some 14, .val (.tmp 105), none⟩]) (
  .seq (
   .seq (
    .ops [⟨some 15, .val (.val (.lit (.int .i64 0))), none⟩]) (
   .block 2 (
     .loop a_bobbinlaw13_FrontOneb4))) (
  .seq (
   .ops [⟨some 143, .val (.tmp 0), none⟩,
     ⟨some 144, .call (.val (.fn (.func 34) [] [])) [(.tmp 143)], none⟩,
     ⟨some 17, .val (.tmp 144), none⟩]) (
  .seq (
   .seq (
    .ops [⟨some 18, .val (.val (.lit (.int .i64 0))), none⟩]) (
   .block 4 (
     .loop a_bobbinlaw13_FrontOneb3))) (
  .seq (
   .ops [⟨some 6, .val (.val (.lit (.bool true))), none⟩]) (
  .ret)))))))))))))))

theorem c_bobbinlaw13_FrontOne : codeOf Try.prog {  } 13 = some (a_bobbinlaw13_FrontOne, [.tmp 6], 236) := by kernel_rfl

/-- bobbin/bobbinlaw13.FrontSet -/
def a_bobbinlaw13_FrontSetb1 : ACode :=
       .seq (
        .seq (
         .ops [⟨some 81, .val (.tmp 12), none⟩,
           ⟨some 82, .val (.tmp 10), none⟩,
           ⟨some 83, .len 1 (.tmp 82), none⟩,
           ⟨some 84, .bin .lss .num (.tmp 81) (.tmp 83), none⟩]) (
        .cond (.tmp 84) (
          .skip) (
          .exit 4))) (
       .seq (
        .block 5 (
          .seq (
           .ops [⟨some 87, .val (.tmp 10), none⟩,
             ⟨some 88, .val (.tmp 12), none⟩,
             ⟨some 89, .indexAddr 1 (.tmp 87) (.tmp 88), none⟩,
             ⟨some 91, .val (.tmp 11), none⟩,
             ⟨some 92, .val (.tmp 12), none⟩,
             ⟨some 93, .indexAddr 1 (.tmp 91) (.tmp 92), none⟩,
             ⟨some 90, .load false 1 (.tmp 89), none⟩,
             ⟨some 94, .load false 1 (.tmp 93), none⟩,
             ⟨some 95, .bin .neq .num (.tmp 90) (.tmp 94), none⟩,
             ⟨some 96, .val (.tmp 95), none⟩,
             ⟨some 97, .val (.tmp 12), some (96, false)⟩,
             ⟨some 98, .bin .gtr .num (.tmp 97) (.val (.lit (.int .i64 0))), some (96, false)⟩,
             ⟨some 99, .val (.tmp 98), some (96, false)⟩,
             ⟨some 100, .val (.tmp 10), some (99, true)⟩,
             ⟨some 101, .val (.tmp 12), some (99, true)⟩,
             ⟨some 102, .indexAddr 1 (.tmp 100) (.tmp 101), some (99, true)⟩,
             ⟨some 104, .val (.tmp 10), some (99, true)⟩,
             ⟨some 105, .val (.tmp 12), some (99, true)⟩,
             ⟨some 106, .bin .sub .num (.tmp 105) (.val (.lit (.int .i64 1))), some (99, true)⟩,
             ⟨some 107, .indexAddr 1 (.tmp 104) (.tmp 106), some (99, true)⟩,
             ⟨some 103, .load false 1 (.tmp 102), some (99, true)⟩,
             ⟨some 108, .load false 1 (.tmp 107), some (99, true)⟩,
             ⟨some 109, .bin .leq .num (.tmp 103) (.tmp 108), some (99, true)⟩,
             ⟨some 110, .pick (.tmp 99) (.tmp 109) (.val (.lit (.bool false))), some (96, false)⟩,
             ⟨some 111, .pick (.tmp 96) (.val (.lit (.bool true))) (.tmp 110), none⟩,
             ⟨some 112, .val (.tmp 111), none⟩,
             ⟨some 113, .val (.tmp 10), some (112, false)⟩,
             ⟨some 114, .val (.tmp 12), some (112, false)⟩,
             ⟨some 115, .indexAddr 1 (.tmp 113) (.tmp 114), some (112, false)⟩,
             ⟨some 116, .load false 1 (.tmp 115), some (112, false)⟩,
             ⟨some 117, .bin .lss .num (.tmp 116) (.val (.lit (.int .i64 0))), some (112, false)⟩,
             ⟨some 118, .pick (.tmp 112) (.val (.lit (.bool true))) (.tmp 117), none⟩,
             ⟨some 119, .val (.tmp 118), none⟩,
             ⟨some 120, .val (.tmp 10), some (119, false)⟩,
             ⟨some 121, .val (.tmp 12), some (119, false)⟩,
             ⟨some 122, .indexAddr 1 (.tmp 120) (.tmp 121), some (119, false)⟩,
             ⟨some 124, .val (.tmp 0), some (119, false)⟩,
             ⟨some 125, .len 1 (.tmp 124), some (119, false)⟩,
             ⟨some 123, .load false 1 (.tmp 122), some (119, false)⟩,
             ⟨some 126, .bin .geq .num (.tmp 123) (.tmp 125), some (119, false)⟩,
             ⟨some 127, .pick (.tmp 119) (.val (.lit (.bool true))) (.tmp 126), none⟩]) (
          .cond (.tmp 127) (
            .seq (
             .ops [⟨some 6, .val (.val (.lit (.bool false))), none⟩]) (
            .ret)) (
            .skip)))) (
       .ops [⟨some 85, .val (.tmp 12), none⟩,
         ⟨some 86, .bin .add .num (.tmp 85) (.val (.lit (.int .i64 1))), none⟩,
         ⟨some 12, .val (.tmp 86), none⟩]))

def a_bobbinlaw13_FrontSetb2 : ACode :=
       .seq (
        .seq (
         .ops [⟨some 41, .val (.tmp 9), none⟩,
           ⟨some 42, .bin .geq .num (.tmp 41) (.val (.lit (.int .i64 0))), none⟩]) (
        .cond (.tmp 42) (
          .skip) (
          .exit 2))) (
       .seq (
        .block 3 (
          .ops [⟨some 45, .val (.tmp 8), none⟩,
            ⟨some 46, .val (.tmp 1), none⟩,
            ⟨some 47, .val (.tmp 9), none⟩,
            ⟨some 48, .indexAddr 1 (.tmp 46) (.tmp 47), none⟩,
            ⟨some 49, .load false 1 (.tmp 48), none⟩,
            ⟨some 50, .bslice false 1 1 [(.lit (.int .i64 0))] [(0, 1, (.tmp 49))], none⟩,
            ⟨some 51, .append false 1 8 (.tmp 45) (.tmp 50), none⟩,
            ⟨some 8, .val (.tmp 51), none⟩])) (
       .ops [⟨some 43, .val (.tmp 9), none⟩,
         ⟨some 44, .bin .sub .num (.tmp 43) (.val (.lit (.int .i64 1))), none⟩,
         ⟨some 9, .val (.tmp 44), none⟩]))

def a_bobbinlaw13_FrontSetb3 : ACode :=
       .seq (
        .seq (
         .ops [⟨some 26, .val (.tmp 7), none⟩,
           ⟨some 27, .val (.tmp 0), none⟩,
           ⟨some 28, .len 1 (.tmp 27), none⟩,
           ⟨some 29, .bin .lss .num (.tmp 26) (.tmp 28), none⟩]) (
        .cond (.tmp 29) (
          .skip) (
          .exit 0))) (
       .seq (
        .block 1 (
          .seq (
           .ops [⟨some 32, .val (.tmp 0), none⟩,
             ⟨some 33, .val (.tmp 7), none⟩,
             ⟨some 34, .indexAddr 1 (.tmp 32) (.tmp 33), none⟩,
             ⟨some 35, .load false 1 (.tmp 34), none⟩,
             ⟨some 36, .len 1 (.tmp 35), none⟩,
             ⟨some 37, .bin .gtr .num (.tmp 36) (.val (.lit (.int .i64 60))), none⟩]) (
          .cond (.tmp 37) (
            .seq (
             .ops [⟨some 6, .val (.val (.lit (.bool true))), none⟩]) (
            .ret)) (
            .skip)))) (
       .ops [⟨some 30, .val (.tmp 7), none⟩,
         ⟨some 31, .bin .add .num (.tmp 30) (.val (.lit (.int .i64 1))), none⟩,
         ⟨some 7, .val (.tmp 31), none⟩]))

def a_bobbinlaw13_FrontSet : ACode :=
  .seq (
   .ops [⟨some 6, .val (.val (.lit (.bool false))), none⟩]) (
  .seq (
   .seq (
    .ops [⟨some 13, .call (.val (.fn (.func 28) [] [])) [], none⟩,
      ⟨some 14, .un .not (.tmp 13), none⟩,
      ⟨some 15, .val (.tmp 14), none⟩,
      ⟨some 16, .val (.tmp 0), some (15, false)⟩,
      ⟨some 17, .len 1 (.tmp 16), some (15, false)⟩,
      ⟨some 18, .bin .gtr .num (.tmp 17) (.val (.lit (.int .i64 60))), some (15, false)⟩,
      ⟨some 19, .pick (.tmp 15) (.val (.lit (.bool true))) (.tmp 18), none⟩,
      ⟨some 20, .val (.tmp 19), none⟩,
      ⟨some 21, .val (.tmp 1), some (20, false)⟩,
      ⟨some 22, .len 1 (.tmp 21), some (20, false)⟩,
      ⟨some 23, .bin .gtr .num (.tmp 22) (.val (.lit (.int .i64 60))), some (20, false)⟩,
      ⟨some 24, .pick (.tmp 20) (.val (.lit (.bool true))) (.tmp 23), none⟩]) (
   .cond (.tmp 24) (
     .seq (
      .ops [⟨some 25, .call (.val (.fn (.func 28) [] [])) [], none⟩,
        ⟨some 6, .val (.tmp 25), none⟩]) (
     .ret)) (
     .skip))) (
  .seq (
   .seq (
    .ops [⟨some 7, .val (.val (.lit (.int .i64 0))), none⟩]) (
   .block 0 (
     .loop a_bobbinlaw13_FrontSetb3))) (
  .seq (
   .ops [⟨some 8, .val (.val (.sl .nil 0 [])), none⟩]) (
  .seq (
   .seq (
    .ops [⟨some 38, .val (.tmp 1), none⟩,
      ⟨some 39, .len 1 (.tmp 38), none⟩,
      ⟨some 40, .bin .sub .num (.tmp 39) (.val (.lit (.int .i64 1))), none⟩,
      ⟨some 9, .val (.tmp 40), none⟩]) (
   .block 2 (
     .loop a_bobbinlaw13_FrontSetb2))) (
  .seq (
   .ops [⟨some 52, .val (.tmp 0), none⟩,
     ⟨some 53, .val (.tmp 1), none⟩,
     ⟨some 54, .call (.val (.fn (.func 30) [] [])) [(.tmp 52), (.tmp 53)], none⟩,
     ⟨some 10, .val (.tmp 54), none⟩]) (
  .seq (
   .ops [⟨some 55, .val (.tmp 0), none⟩,
     ⟨some 56, .bslice false 1 0 [] [], none⟩,
     ⟨some 57, .val (.tmp 8), none⟩,
     ⟨some 58, .append false 1 8 (.tmp 56) (.tmp 57), none⟩,
     ⟨some 59, .val (.tmp 1), none⟩,
     ⟨some 60, .append false 1 8 (.tmp 58) (.tmp 59), none⟩,
     ⟨some 61, .val (.tmp 0), none⟩,
     ⟨some 62, .len 1 (.tmp 61), none⟩,
     ⟨some 63, .val (.tmp 2), none⟩,
     ⟨some 64, .conv .u64 (.tmp 63), none⟩,
     ⟨some 65, .bin .rem .num (.tmp 64) (.val (.lit (.int .u64 1000))), none⟩,
     ⟨some 66, .conv .i64 (.tmp 65), none⟩,
     ⟨some 67, .bin .add .num (.tmp 62) (.tmp 66), none⟩,
     ⟨some 68, .val (.tmp 2), none⟩,
     ⟨some 69, .conv .u64 (.tmp 68), none⟩,
     ⟨some 70, .bin .rem .num (.tmp 69) (.val (.lit (.int .u64 1000))), none⟩,
     ⟨some 71, .conv .i64 (.tmp 70), none⟩,
     ⟨some 72, .bin .sub .num (.val (.lit (.int .i64 (-1)))) (.tmp 71), none⟩,
     ⟨some 73, .bslice false 1 2 [(.lit (.int .i64 0)), (.lit (.int .i64 0))] [(0, 1, (.tmp 67)), (1, 1, (.tmp 72))], none⟩,
     ⟨some 74, .append false 1 8 (.tmp 60) (.tmp 73), none⟩,
     ⟨some 75, .call (.val (.fn (.func 30) [] [])) [(.tmp 55), (.tmp 74)], none⟩,
     ⟨some 11, .val (.tmp 75), none⟩]) (
  .seq (
   .seq (
    .ops [⟨some 76, .val (.tmp 10), none⟩,
      ⟨some 77, .len 1 (.tmp 76), none⟩,
      ⟨some 78, .val (.tmp 11), none⟩,
      ⟨some 79, .len 1 (.tmp 78), none⟩,
      ⟨some 80, .bin .neq .num (.tmp 77) (.tmp 79), none⟩]) (
   .cond (.tmp 80) (
     .seq (
      .ops [⟨some 6, .val (.val (.lit (.bool false))), none⟩]) (
     .ret)) (
     .skip))) (
  .seq (
   .seq (
    .ops [⟨some 12, .val (.val (.lit (.int .i64 0))), none⟩]) (
   .block 4 (
     .loop a_bobbinlaw13_FrontSetb1))) (
  .seq (
   .ops [⟨some 6, .val (.val (.lit (.bool true))), none⟩]) (
  .ret))))))))))

theorem c_bobbinlaw13_FrontSet : codeOf Try.prog {  } 11 = some (a_bobbinlaw13_FrontSet, [.tmp 6], 128) := by kernel_rfl

/-- bobbin/bobbinlaw13.FrontBehind -/
def a_bobbinlaw13_FrontBehindb1 : ACode :=
              .seq (
               .seq (
                .ops [⟨some 139, .val (.tmp 11), none⟩,
                  ⟨some 140, .val (.tmp 8), none⟩,
                  ⟨some 141, .val (.tmp 10), none⟩,
                  ⟨some 142, .indexAddr 1 (.tmp 140) (.tmp 141), none⟩,
                  ⟨some 143, .load false 1 (.tmp 142), none⟩,
                  ⟨some 144, .len 1 (.tmp 143), none⟩,
                  ⟨some 145, .bin .lss .num (.tmp 139) (.tmp 144), none⟩]) (
               .cond (.tmp 145) (
                 .skip) (
                 .exit 8))) (
              .seq (
               .block 9 (
                 .seq (
                  .ops [⟨some 148, .val (.tmp 8), none⟩,
                    ⟨some 149, .val (.tmp 10), none⟩,
                    ⟨some 150, .indexAddr 1 (.tmp 148) (.tmp 149), none⟩,
                    ⟨some 152, .val (.tmp 11), none⟩,
                    ⟨some 155, .val (.tmp 9), none⟩,
                    ⟨some 156, .val (.tmp 10), none⟩,
                    ⟨some 157, .indexAddr 1 (.tmp 155) (.tmp 156), none⟩,
                    ⟨some 159, .val (.tmp 11), none⟩,
                    ⟨some 151, .load false 1 (.tmp 150), none⟩,
                    ⟨some 153, .indexAddr 1 (.tmp 151) (.tmp 152), none⟩,
                    ⟨some 154, .load false 1 (.tmp 153), none⟩,
                    ⟨some 158, .load false 1 (.tmp 157), none⟩,
                    ⟨some 160, .indexAddr 1 (.tmp 158) (.tmp 159), none⟩,
                    ⟨some 161, .load false 1 (.tmp 160), none⟩,
                    ⟨some 162, .bin .neq .num (.tmp 154) (.tmp 161), none⟩]) (
                 .cond (.tmp 162) (
                   .seq (
                    .ops [⟨some 4, .val (.val (.lit (.bool false))), none⟩]) (
                   .ret)) (
                   .skip)))) (
              .ops [⟨some 146, .val (.tmp 11), none⟩,
                ⟨some 147, .bin .add .num (.tmp 146) (.val (.lit (.int .i64 1))), none⟩,
                ⟨some 11, .val (.tmp 147), none⟩]))

def a_bobbinlaw13_FrontBehindb2 : ACode :=
       .seq (
        .seq (
         .ops [⟨some 122, .val (.tmp 10), none⟩,
           ⟨some 123, .val (.tmp 8), none⟩,
           ⟨some 124, .len 1 (.tmp 123), none⟩,
           ⟨some 125, .bin .lss .num (.tmp 122) (.tmp 124), none⟩]) (
        .cond (.tmp 125) (
          .skip) (
          .exit 6))) (
       .seq (
        .block 7 (
          .seq (
           .seq (
            .ops [⟨some 128, .val (.tmp 8), none⟩,
              ⟨some 129, .val (.tmp 10), none⟩,
              ⟨some 130, .indexAddr 1 (.tmp 128) (.tmp 129), none⟩,
              ⟨some 133, .val (.tmp 9), none⟩,
              ⟨some 134, .val (.tmp 10), none⟩,
              ⟨some 135, .indexAddr 1 (.tmp 133) (.tmp 134), none⟩,
              ⟨some 131, .load false 1 (.tmp 130), none⟩,
              ⟨some 132, .len 1 (.tmp 131), none⟩,
              ⟨some 136, .load false 1 (.tmp 135), none⟩,
              ⟨some 137, .len 1 (.tmp 136), none⟩,
              ⟨some 138, .bin .neq .num (.tmp 132) (.tmp 137), none⟩]) (
           .cond (.tmp 138) (
             .seq (
              .ops [⟨some 4, .val (.val (.lit (.bool false))), none⟩]) (
             .ret)) (
             .skip))) (
          .seq (
           .ops [⟨some 11, .val (.val (.lit (.int .i64 0))), none⟩]) (
          .block 8 (
            .loop a_bobbinlaw13_FrontBehindb1))))) (
       .ops [⟨some 126, .val (.tmp 10), none⟩,
         ⟨some 127, .bin .add .num (.tmp 126) (.val (.lit (.int .i64 1))), none⟩,
         ⟨some 10, .val (.tmp 127), none⟩]))

def a_bobbinlaw13_FrontBehindb3 : ACode :=
       .seq (
        .seq (
         .ops [⟨some 71, .val (.tmp 7), none⟩,
           ⟨some 72, .val (.tmp 1), none⟩,
           ⟨some 73, .len 1 (.tmp 72), none⟩,
           ⟨some 74, .bin .lss .num (.tmp 71) (.tmp 73), none⟩]) (
        .cond (.tmp 74) (
          .skip) (
          .exit 4))) (
       .seq (
        .block 5 (
          .seq (
           .ops [⟨some 77, .val (.tmp 1), none⟩,
             ⟨some 78, .val (.tmp 7), none⟩,
             ⟨some 79, .indexAddr 1 (.tmp 77) (.tmp 78), none⟩,
             ⟨some 80, .load false 1 (.tmp 79), none⟩,
             ⟨some 81, .bin .lss .num (.tmp 80) (.val (.lit (.int .i64 0))), none⟩,
             ⟨some 82, .val (.tmp 81), none⟩,
             ⟨some 83, .val (.tmp 1), some (82, false)⟩,
             ⟨some 84, .val (.tmp 7), some (82, false)⟩,
             ⟨some 85, .indexAddr 1 (.tmp 83) (.tmp 84), some (82, false)⟩,
             ⟨some 86, .load false 1 (.tmp 85), some (82, false)⟩,
             ⟨some 87, .val (.tmp 0), some (82, false)⟩,
             ⟨some 88, .len 1 (.tmp 87), some (82, false)⟩,
             ⟨some 89, .bin .gtr .num (.tmp 86) (.tmp 88), some (82, false)⟩,
             ⟨some 90, .pick (.tmp 82) (.val (.lit (.bool true))) (.tmp 89), none⟩]) (
          .cond (.tmp 90) (
            .seq (
             .ops [⟨some 4, .val (.val (.lit (.bool true))), none⟩]) (
            .ret)) (
            .skip)))) (
       .ops [⟨some 75, .val (.tmp 7), none⟩,
         ⟨some 76, .bin .add .num (.tmp 75) (.val (.lit (.int .i64 1))), none⟩,
         ⟨some 7, .val (.tmp 76), none⟩]))

def a_bobbinlaw13_FrontBehindb4 : ACode :=
              .seq (
               .seq (
                .ops [⟨some 42, .val (.tmp 6), none⟩,
                  ⟨some 43, .val (.tmp 0), none⟩,
                  ⟨some 44, .val (.tmp 5), none⟩,
                  ⟨some 45, .indexAddr 1 (.tmp 43) (.tmp 44), none⟩,
                  ⟨some 46, .load false 1 (.tmp 45), none⟩,
                  ⟨some 47, .len 1 (.tmp 46), none⟩,
                  ⟨some 48, .bin .lss .num (.tmp 42) (.tmp 47), none⟩]) (
               .cond (.tmp 48) (
                 .skip) (
                 .exit 2))) (
              .seq (
               .block 3 (
                 .seq (
                  .ops [⟨some 51, .val (.tmp 0), none⟩,
                    ⟨some 52, .val (.tmp 5), none⟩,
                    ⟨some 53, .indexAddr 1 (.tmp 51) (.tmp 52), none⟩,
                    ⟨some 54, .load false 1 (.tmp 53), none⟩,
                    ⟨some 55, .val (.tmp 6), none⟩,
                    ⟨some 56, .indexAddr 1 (.tmp 54) (.tmp 55), none⟩,
                    ⟨some 57, .load false 1 (.tmp 56), none⟩,
                    ⟨some 58, .bin .lss .num (.tmp 57) (.val (.lit (.int .i64 0))), none⟩,
                    ⟨some 59, .val (.tmp 58), none⟩,
                    ⟨some 60, .val (.tmp 0), some (59, false)⟩,
                    ⟨some 61, .val (.tmp 5), some (59, false)⟩,
                    ⟨some 62, .indexAddr 1 (.tmp 60) (.tmp 61), some (59, false)⟩,
                    ⟨some 63, .load false 1 (.tmp 62), some (59, false)⟩,
                    ⟨some 64, .val (.tmp 6), some (59, false)⟩,
                    ⟨some 65, .indexAddr 1 (.tmp 63) (.tmp 64), some (59, false)⟩,
                    ⟨some 66, .load false 1 (.tmp 65), some (59, false)⟩,
                    ⟨some 67, .val (.tmp 0), some (59, false)⟩,
                    ⟨some 68, .len 1 (.tmp 67), some (59, false)⟩,
                    ⟨some 69, .bin .geq .num (.tmp 66) (.tmp 68), some (59, false)⟩,
                    ⟨some 70, .pick (.tmp 59) (.val (.lit (.bool true))) (.tmp 69), none⟩]) (
                 .cond (.tmp 70) (
                   .seq (
                    .ops [⟨some 4, .val (.val (.lit (.bool true))), none⟩]) (
                   .ret)) (
                   .skip)))) (
              .ops [⟨some 49, .val (.tmp 6), none⟩,
                ⟨some 50, .bin .add .num (.tmp 49) (.val (.lit (.int .i64 1))), none⟩,
                ⟨some 6, .val (.tmp 50), none⟩]))

def a_bobbinlaw13_FrontBehindb5 : ACode :=
       .seq (
        .seq (
         .ops [⟨some 30, .val (.tmp 5), none⟩,
           ⟨some 31, .val (.tmp 0), none⟩,
           ⟨some 32, .len 1 (.tmp 31), none⟩,
           ⟨some 33, .bin .lss .num (.tmp 30) (.tmp 32), none⟩]) (
        .cond (.tmp 33) (
          .skip) (
          .exit 0))) (
       .seq (
        .block 1 (
          .seq (
           .seq (
            .ops [⟨some 36, .val (.tmp 0), none⟩,
              ⟨some 37, .val (.tmp 5), none⟩,
              ⟨some 38, .indexAddr 1 (.tmp 36) (.tmp 37), none⟩,
              ⟨some 39, .load false 1 (.tmp 38), none⟩,
              ⟨some 40, .len 1 (.tmp 39), none⟩,
              ⟨some 41, .bin .gtr .num (.tmp 40) (.val (.lit (.int .i64 60))), none⟩]) (
           .cond (.tmp 41) (
             .seq (
              .ops [⟨some 4, .val (.val (.lit (.bool true))), none⟩]) (
             .ret)) (
             .skip))) (
          .seq (
           .ops [⟨some 6, .val (.val (.lit (.int .i64 0))), none⟩]) (
          .block 2 (
            .loop a_bobbinlaw13_FrontBehindb4))))) (
       .ops [⟨some 34, .val (.tmp 5), none⟩,
         ⟨some 35, .bin .add .num (.tmp 34) (.val (.lit (.int .i64 1))), none⟩,
         ⟨some 5, .val (.tmp 35), none⟩]))

def a_bobbinlaw13_FrontBehind : ACode :=
  .seq (
   .ops [⟨some 4, .val (.val (.lit (.bool false))), none⟩]) (
  .seq (
   .seq (
    .ops [⟨some 12, .call (.val (.fn (.func 28) [] [])) [], none⟩,
      ⟨some 13, .un .not (.tmp 12), none⟩,
      ⟨some 14, .val (.tmp 13), none⟩,
      ⟨some 15, .val (.tmp 0), some (14, false)⟩,
      ⟨some 16, .len 1 (.tmp 15), some (14, false)⟩,
      ⟨some 17, .bin .gtr .num (.tmp 16) (.val (.lit (.int .i64 60))), some (14, false)⟩,
      ⟨some 18, .pick (.tmp 14) (.val (.lit (.bool true))) (.tmp 17), none⟩,
      ⟨some 19, .val (.tmp 18), none⟩,
      ⟨some 20, .val (.tmp 0), some (19, false)⟩,
      ⟨some 21, .len 1 (.tmp 20), some (19, false)⟩,
      ⟨some 22, .bin .eql .num (.tmp 21) (.val (.lit (.int .i64 0))), some (19, false)⟩,
      ⟨some 23, .pick (.tmp 19) (.val (.lit (.bool true))) (.tmp 22), none⟩,
      ⟨some 24, .val (.tmp 23), none⟩,
      ⟨some 25, .val (.tmp 1), some (24, false)⟩,
      ⟨some 26, .len 1 (.tmp 25), some (24, false)⟩,
      ⟨some 27, .bin .gtr .num (.tmp 26) (.val (.lit (.int .i64 60))), some (24, false)⟩,
      ⟨some 28, .pick (.tmp 24) (.val (.lit (.bool true))) (.tmp 27), none⟩]) (
   .cond (.tmp 28) (
     .seq (
      .ops [⟨some 29, .call (.val (.fn (.func 28) [] [])) [], none⟩,
        ⟨some 4, .val (.tmp 29), none⟩]) (
     .ret)) (
     .skip))) (
  .seq (
   .seq (
    .ops [⟨some 5, .val (.val (.lit (.int .i64 0))), none⟩]) (
   .block 0 (
     .loop a_bobbinlaw13_FrontBehindb5))) (
  .seq (
   .seq (
    .ops [⟨some 7, .val (.val (.lit (.int .i64 0))), none⟩]) (
   .block 4 (
     .loop a_bobbinlaw13_FrontBehindb3))) (
  .seq (
   .ops [⟨some 91, .val (.tmp 0), none⟩,
     ⟨some 92, .call (.val (.fn (.func 34) [] [])) [(.tmp 91)], none⟩,
     ⟨some 8, .val (.tmp 92), none⟩]) (
  .seq (
   .ops [⟨some 93, .bslice false 1 0 [] [], none⟩,
     ⟨some 94, .val (.tmp 0), none⟩,
     ⟨some 95, .append false 1 24 (.tmp 93) (.tmp 94), none⟩,
     ⟨some 96, .val (.tmp 1), none⟩,
     ⟨some 97, .bslice false 1 1 [(.sl .nil 0 [])] [(0, 1, (.tmp 96))], none⟩,
     ⟨some 98, .append false 1 24 (.tmp 95) (.tmp 97), none⟩,
     ⟨some 99, .call (.val (.fn (.func 34) [] [])) [(.tmp 98)], none⟩,
     ⟨some 9, .val (.tmp 99), none⟩]) (
  .seq (
   .seq (
    .ops [⟨some 100, .val (.tmp 8), none⟩,
      ⟨some 101, .len 1 (.tmp 100), none⟩,
      ⟨some 102, .val (.tmp 0), none⟩,
      ⟨some 103, .len 1 (.tmp 102), none⟩,
      ⟨some 104, .bin .neq .num (.tmp 101) (.tmp 103), none⟩,
      ⟨some 105, .val (.tmp 104), none⟩,
      ⟨some 106, .val (.tmp 9), some (105, false)⟩,
      ⟨some 107, .len 1 (.tmp 106), some (105, false)⟩,
      ⟨some 108, .val (.tmp 0), some (105, false)⟩,
      ⟨some 109, .len 1 (.tmp 108), some (105, false)⟩,
      ⟨some 110, .bin .add .num (.tmp 109) (.val (.lit (.int .i64 1))), some (105, false)⟩,
      ⟨some 111, .bin .neq .num (.tmp 107) (.tmp 110), some (105, false)⟩,
      ⟨some 112, .pick (.tmp 105) (.val (.lit (.bool true))) (.tmp 111), none⟩,
      ⟨some 113, .val (.tmp 112), none⟩,
      ⟨some 114, .val (.tmp 9), some (113, false)⟩,
      ⟨some 115, .val (.tmp 0), some (113, false)⟩,
      ⟨some 116, .len 1 (.tmp 115), some (113, false)⟩,
      ⟨some 117, .indexAddr 1 (.tmp 114) (.tmp 116), some (113, false)⟩,
      ⟨some 118, .load false 1 (.tmp 117), some (113, false)⟩,
      ⟨some 119, .len 1 (.tmp 118), some (113, false)⟩,
      ⟨some 120, .bin .neq .num (.tmp 119) (.val (.lit (.int .i64 0))), some (113, false)⟩,
      ⟨some 121, .pick (.tmp 113) (.val (.lit (.bool true))) (.tmp 120), none⟩]) (
   .cond (.tmp 121) (
     .seq (
      .ops [⟨some 4, .val (.val (.lit (.bool false))), none⟩]) (
     .ret)) (
     .skip))) (
  .seq (
   .seq (
    .ops [⟨some 10, .val (.val (.lit (.int .i64 0))), none⟩]) (
   .block 6 (
     .loop a_bobbinlaw13_FrontBehindb2))) (
  .seq (
   .ops [⟨some 4, .val (.val (.lit (.bool true))), none⟩]) (
  .ret)))))))))

theorem c_bobbinlaw13_FrontBehind : codeOf Try.prog {  } 12 = some (a_bobbinlaw13_FrontBehind, [.tmp 4], 163) := by kernel_rfl

end Go.Proofs.Ytmbbklddjkmcmaa
