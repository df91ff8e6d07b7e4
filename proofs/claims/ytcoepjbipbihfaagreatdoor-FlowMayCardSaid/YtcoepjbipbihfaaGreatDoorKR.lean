/- The code of functions, compiled (printed by wip/tools/kp.py). -/
import Derived.Test.YtcoepjbipbihfaaGreatDoorProg
import Derived.Test.YtcoepjbipbihfaaGreatDoorM3
namespace Go.Proofs.YtcoepjbipbihfaaGreatDoor
set_option linter.unusedSimpArgs false
set_option linter.unusedVariables false
open Go Go.Fw
/-- bobbin/bobbinref11.last -/
def a_bobbinref11_last : ACode :=
  .seq (
   .ops [⟨some 1, .box true (.tmp 0), none⟩,
     ⟨some 2, .val (.val (.lit (.int .u8 0))), none⟩]) (
  .seq (
   .seq (
    .ops [⟨some 3, .fieldAddr 1 (.tmp 1), none⟩,
      ⟨some 4, .iload false 1 (.tmp 3), none⟩,
      ⟨some 5, .len 1 (.tmp 4), none⟩,
      ⟨some 6, .bin .eql .num (.tmp 5) (.val (.lit (.int .i64 0))), none⟩]) (
   .cond (.tmp 6) (
     .seq (
      .ops [⟨some 2, .val (.val (.lit (.int .u8 0))), none⟩]) (
     .ret)) (
     .skip))) (
  .seq (
   .ops [⟨some 7, .fieldAddr 1 (.tmp 1), none⟩,
     ⟨some 8, .iload false 1 (.tmp 7), none⟩,
     ⟨some 9, .fieldAddr 1 (.tmp 1), none⟩,
     ⟨some 10, .iload false 1 (.tmp 9), none⟩,
     ⟨some 11, .len 1 (.tmp 10), none⟩,
     ⟨some 12, .bin .sub .num (.tmp 11) (.val (.lit (.int .i64 1))), none⟩,
     ⟨some 13, .indexAddr 6 (.tmp 8) (.tmp 12), none⟩,
     ⟨some 14, .fieldAddr 0 (.tmp 13), none⟩,
     ⟨some 15, .load false 1 (.tmp 14), none⟩,
     ⟨some 2, .val (.tmp 15), none⟩]) (
  .ret)))

theorem c_bobbinref11_last : codeOf Tryz.prog { bz := [1], il := [4, 8, 10] } 74 = some (a_bobbinref11_last, [.tmp 2], 16) := by kernel_rfl

/-- bobbin/bobbinref11.ends -/
def a_bobbinref11_ends : ACode :=
  .seq (
   .ops [⟨some 2, .val (.val (.lit (.bool false))), none⟩]) (
  .seq (
   .ops [⟨some 3, .val (.tmp 0), none⟩,
     ⟨some 4, .bin .eql .num (.tmp 3) (.val (.lit (.int .u8 11))), none⟩,
     ⟨some 5, .val (.tmp 4), none⟩,
     ⟨some 6, .val (.tmp 0), some (5, false)⟩,
     ⟨some 7, .bin .eql .num (.tmp 6) (.val (.lit (.int .u8 12))), some (5, false)⟩,
     ⟨some 8, .pick (.tmp 5) (.val (.lit (.bool true))) (.tmp 7), none⟩,
     ⟨some 9, .val (.tmp 8), none⟩,
     ⟨some 10, .val (.tmp 0), some (9, false)⟩,
     ⟨some 11, .bin .eql .num (.tmp 10) (.val (.lit (.int .u8 13))), some (9, false)⟩,
     ⟨some 12, .pick (.tmp 9) (.val (.lit (.bool true))) (.tmp 11), none⟩,
     ⟨some 2, .val (.tmp 12), none⟩]) (
  .ret))

theorem c_bobbinref11_ends : codeOf Tryz.prog {  } 73 = some (a_bobbinref11_ends, [.tmp 2], 13) := by kernel_rfl

/-- bobbin/bobbinref11.has -/
def a_bobbinref11_hasb1 : ACode :=
       .seq (
        .seq (
         .ops [⟨some 6, .val (.tmp 5), none⟩,
           ⟨some 7, .val (.tmp 0), none⟩,
           ⟨some 8, .len 1 (.tmp 7), none⟩,
           ⟨some 9, .bin .lss .num (.tmp 6) (.tmp 8), none⟩]) (
        .cond (.tmp 9) (
          .skip) (
          .exit 0))) (
       .seq (
        .block 1 (
          .seq (
           .ops [⟨some 12, .val (.tmp 0), none⟩,
             ⟨some 13, .val (.tmp 5), none⟩,
             ⟨some 14, .indexAddr 1 (.tmp 12) (.tmp 13), none⟩,
             ⟨some 15, .load false 1 (.tmp 14), none⟩,
             ⟨some 16, .val (.tmp 1), none⟩,
             ⟨some 17, .bin .eql .num (.tmp 15) (.tmp 16), none⟩]) (
          .cond (.tmp 17) (
            .seq (
             .ops [⟨some 4, .val (.val (.lit (.bool true))), none⟩]) (
            .ret)) (
            .skip)))) (
       .ops [⟨some 10, .val (.tmp 5), none⟩,
         ⟨some 11, .bin .add .num (.tmp 10) (.val (.lit (.int .i64 1))), none⟩,
         ⟨some 5, .val (.tmp 11), none⟩]))

def a_bobbinref11_has : ACode :=
  .seq (
   .ops [⟨some 4, .val (.val (.lit (.bool false))), none⟩]) (
  .seq (
   .seq (
    .ops [⟨some 5, .val (.val (.lit (.int .i64 0))), none⟩]) (
   .block 0 (
     .loop a_bobbinref11_hasb1))) (
  .seq (
   .ops [⟨some 4, .val (.val (.lit (.bool false))), none⟩]) (
  .ret)))

theorem c_bobbinref11_has : codeOf Tryz.prog {  } 76 = some (a_bobbinref11_has, [.tmp 4], 18) := by kernel_rfl

/-- bobbin/bobbinref11.Froms -/
def a_bobbinref11_Fromsb1 : ACode :=
       .seq (
        .seq (
         .ops [⟨some 7, .val (.tmp 6), none⟩,
           ⟨some 8, .val (.tmp 0), none⟩,
           ⟨some 9, .len 1 (.tmp 8), none⟩,
           ⟨some 10, .bin .lss .num (.tmp 7) (.tmp 9), none⟩]) (
        .cond (.tmp 10) (
          .skip) (
          .exit 0))) (
       .seq (
        .block 1 (
          .seq (
           .ops [⟨some 13, .val (.tmp 0), none⟩,
             ⟨some 14, .val (.tmp 6), none⟩,
             ⟨some 15, .indexAddr 4 (.tmp 13) (.tmp 14), none⟩,
             ⟨some 16, .fieldAddr 3 (.tmp 15), none⟩,
             ⟨some 17, .load false 1 (.tmp 16), none⟩,
             ⟨some 18, .val (.tmp 1), none⟩,
             ⟨some 19, .call (.val (.fn (.func 76) [] [])) [(.tmp 17), (.tmp 18)], none⟩]) (
          .cond (.tmp 19) (
            .ops [⟨some 20, .val (.tmp 5), none⟩,
              ⟨some 21, .val (.tmp 6), none⟩,
              ⟨some 22, .bslice false 1 1 [(.lit (.int .i64 0))] [(0, 1, (.tmp 21))], none⟩,
              ⟨some 23, .append false 1 8 (.tmp 20) (.tmp 22), none⟩,
              ⟨some 5, .val (.tmp 23), none⟩]) (
            .skip)))) (
       .ops [⟨some 11, .val (.tmp 6), none⟩,
         ⟨some 12, .bin .add .num (.tmp 11) (.val (.lit (.int .i64 1))), none⟩,
         ⟨some 6, .val (.tmp 12), none⟩]))

def a_bobbinref11_Froms : ACode :=
  .seq (
   .ops [⟨some 4, .val (.val (.sl .nil 0 [])), none⟩]) (
  .seq (
   .ops [⟨some 5, .val (.val (.sl .nil 0 [])), none⟩]) (
  .seq (
   .seq (
    .ops [⟨some 6, .val (.val (.lit (.int .i64 0))), none⟩]) (
   .block 0 (
     .loop a_bobbinref11_Fromsb1))) (
  .seq (
   .ops [⟨some 24, .val (.tmp 5), none⟩,
     ⟨some 4, .val (.tmp 24), none⟩]) (
  .ret))))

theorem c_bobbinref11_Froms : codeOf Tryz.prog {  } 30 = some (a_bobbinref11_Froms, [.tmp 4], 25) := by kernel_rfl

/-- bobbin/bobbinref11.ints -/
def a_bobbinref11_intsb1 : ACode :=
       .seq (
        .seq (
         .ops [⟨some 11, .val (.tmp 5), none⟩,
           ⟨some 12, .val (.tmp 0), none⟩,
           ⟨some 13, .len 1 (.tmp 12), none⟩,
           ⟨some 14, .bin .lss .num (.tmp 11) (.tmp 13), none⟩]) (
        .cond (.tmp 14) (
          .skip) (
          .exit 0))) (
       .seq (
        .block 1 (
          .seq (
           .ops [⟨some 17, .val (.tmp 0), none⟩,
             ⟨some 18, .val (.tmp 5), none⟩,
             ⟨some 19, .indexAddr 1 (.tmp 17) (.tmp 18), none⟩,
             ⟨some 21, .val (.tmp 1), none⟩,
             ⟨some 22, .val (.tmp 5), none⟩,
             ⟨some 23, .indexAddr 1 (.tmp 21) (.tmp 22), none⟩,
             ⟨some 20, .load false 1 (.tmp 19), none⟩,
             ⟨some 24, .load false 1 (.tmp 23), none⟩,
             ⟨some 25, .bin .neq .num (.tmp 20) (.tmp 24), none⟩]) (
          .cond (.tmp 25) (
            .seq (
             .ops [⟨some 4, .val (.val (.lit (.bool false))), none⟩]) (
            .ret)) (
            .skip)))) (
       .ops [⟨some 15, .val (.tmp 5), none⟩,
         ⟨some 16, .bin .add .num (.tmp 15) (.val (.lit (.int .i64 1))), none⟩,
         ⟨some 5, .val (.tmp 16), none⟩]))

def a_bobbinref11_ints : ACode :=
  .seq (
   .ops [⟨some 4, .val (.val (.lit (.bool false))), none⟩]) (
  .seq (
   .seq (
    .ops [⟨some 6, .val (.tmp 0), none⟩,
      ⟨some 7, .len 1 (.tmp 6), none⟩,
      ⟨some 8, .val (.tmp 1), none⟩,
      ⟨some 9, .len 1 (.tmp 8), none⟩,
      ⟨some 10, .bin .neq .num (.tmp 7) (.tmp 9), none⟩]) (
   .cond (.tmp 10) (
     .seq (
      .ops [⟨some 4, .val (.val (.lit (.bool false))), none⟩]) (
     .ret)) (
     .skip))) (
  .seq (
   .seq (
    .ops [⟨some 5, .val (.val (.lit (.int .i64 0))), none⟩]) (
   .block 0 (
     .loop a_bobbinref11_intsb1))) (
  .seq (
   .ops [⟨some 4, .val (.val (.lit (.bool true))), none⟩]) (
  .ret))))

theorem c_bobbinref11_ints : codeOf Tryz.prog {  } 29 = some (a_bobbinref11_ints, [.tmp 4], 26) := by kernel_rfl

/-- bobbin/bobbinref11.within -/
def a_bobbinref11_withinb1 : ACode :=
       .seq (
        .seq (
         .ops [⟨some 6, .val (.tmp 5), none⟩,
           ⟨some 7, .val (.tmp 0), none⟩,
           ⟨some 8, .len 1 (.tmp 7), none⟩,
           ⟨some 9, .bin .lss .num (.tmp 6) (.tmp 8), none⟩]) (
        .cond (.tmp 9) (
          .skip) (
          .exit 0))) (
       .seq (
        .block 1 (
          .seq (
           .ops [⟨some 12, .val (.tmp 0), none⟩,
             ⟨some 13, .val (.tmp 5), none⟩,
             ⟨some 14, .indexAddr 1 (.tmp 12) (.tmp 13), none⟩,
             ⟨some 15, .load false 1 (.tmp 14), none⟩,
             ⟨some 16, .bin .lss .num (.tmp 15) (.val (.lit (.int .i64 0))), none⟩,
             ⟨some 17, .val (.tmp 16), none⟩,
             ⟨some 18, .val (.tmp 0), some (17, false)⟩,
             ⟨some 19, .val (.tmp 5), some (17, false)⟩,
             ⟨some 20, .indexAddr 1 (.tmp 18) (.tmp 19), some (17, false)⟩,
             ⟨some 21, .load false 1 (.tmp 20), some (17, false)⟩,
             ⟨some 22, .val (.tmp 1), some (17, false)⟩,
             ⟨some 23, .bin .geq .num (.tmp 21) (.tmp 22), some (17, false)⟩,
             ⟨some 24, .pick (.tmp 17) (.val (.lit (.bool true))) (.tmp 23), none⟩]) (
          .cond (.tmp 24) (
            .seq (
             .ops [⟨some 4, .val (.val (.lit (.bool false))), none⟩]) (
            .ret)) (
            .skip)))) (
       .ops [⟨some 10, .val (.tmp 5), none⟩,
         ⟨some 11, .bin .add .num (.tmp 10) (.val (.lit (.int .i64 1))), none⟩,
         ⟨some 5, .val (.tmp 11), none⟩]))

def a_bobbinref11_within : ACode :=
  .seq (
   .ops [⟨some 4, .val (.val (.lit (.bool false))), none⟩]) (
  .seq (
   .seq (
    .ops [⟨some 5, .val (.val (.lit (.int .i64 0))), none⟩]) (
   .block 0 (
     .loop a_bobbinref11_withinb1))) (
  .seq (
   .ops [⟨some 4, .val (.val (.lit (.bool true))), none⟩]) (
  .ret)))

theorem c_bobbinref11_within : codeOf Tryz.prog {  } 75 = some (a_bobbinref11_within, [.tmp 4], 25) := by kernel_rfl

/-- bobbin/bobbinref11.mayIns -/
def a_bobbinref11_mayIns : ACode :=
  .seq (
   .ops [⟨some 2, .box false (.tmp 0), none⟩,
     ⟨some 4, .val (.val (.lit (.bool false))), none⟩]) (
  .seq (
   .ops [⟨some 7, .val (.tmp 1), none⟩,
     ⟨some 8, .build [(.lit (.int .u8 0)), (.lit (.int .i64 0)), (.lit (.int .i64 0)), (.lit (.int .i64 0)), (.lit (.int .i64 0)), (.sl .nil 0 [])] [], none⟩,
     ⟨some 9, .bslice false 6 1 [(.lit (.int .u8 0)), (.lit (.int .i64 0)), (.lit (.int .i64 0)), (.lit (.int .i64 0)), (.lit (.int .i64 0)), (.sl .nil 0 [])] [(0, 6, (.tmp 8))], none⟩,
     ⟨some 10, .build [(.lit (.string ⟨#[]⟩)), (.lit (.bool false)), (.lit (.int .i64 0)), (.lit (.int .i64 0)), (.sl .nil 0 [])] [(3, 1, (.tmp 7)), (4, 1, (.tmp 9))], none⟩,
     ⟨some 5, .alloc [(.lit (.string ⟨#[]⟩)), (.lit (.bool false)), (.lit (.int .i64 0)), (.lit (.int .i64 0)), (.sl .nil 0 [])], none⟩,
     ⟨none, .store 5 (.tmp 5) (.tmp 10), none⟩]) (
  .seq (
   .ops [⟨some 11, .build [(.lit (.string ⟨#[]⟩)), (.lit (.int .i64 0)), (.lit (.int .i64 0))] [], none⟩,
     ⟨some 12, .bslice false 3 1 [(.lit (.string ⟨#[]⟩)), (.lit (.int .i64 0)), (.lit (.int .i64 0))] [(0, 3, (.tmp 11))], none⟩,
     ⟨some 13, .bslice false 1 1 [(.lit (.string ⟨#[]⟩))] [(0, 1, (.val (.lit (.string ⟨#[]⟩))))], none⟩,
     ⟨some 14, .load true 5 (.tmp 5), none⟩,
     ⟨some 15, .fieldAddr 5 (.tmp 2), none⟩,
     ⟨some 16, .load false 1 (.tmp 15), none⟩,
     ⟨some 17, .len 1 (.tmp 16), none⟩,
     ⟨some 18, .build [(.lit (.string ⟨#[]⟩)), (.lit (.bool false)), (.lit (.int .i64 0)), (.lit (.int .i64 0)), (.sl .nil 0 [])] [(2, 1, (.tmp 17))], none⟩,
     ⟨some 19, .bslice false 5 2 [(.lit (.string ⟨#[]⟩)), (.lit (.bool false)), (.lit (.int .i64 0)), (.lit (.int .i64 0)), (.sl .nil 0 []), (.lit (.string ⟨#[]⟩)), (.lit (.bool false)), (.lit (.int .i64 0)), (.lit (.int .i64 0)), (.sl .nil 0 [])] [(0, 5, (.tmp 14)), (5, 5, (.tmp 18))], none⟩,
     ⟨some 20, .build [(.sl .nil 0 []), (.sl .nil 0 []), (.sl .nil 0 [])] [(0, 1, (.tmp 12)), (1, 1, (.tmp 13)), (2, 1, (.tmp 19))], none⟩,
     ⟨some 6, .alloc [(.sl .nil 0 []), (.sl .nil 0 []), (.sl .nil 0 [])], none⟩,
     ⟨none, .store 3 (.tmp 6) (.tmp 20), none⟩]) (
  .seq (
   .seq (
    .ops [⟨some 21, .fieldAddr 0 (.tmp 2), none⟩,
      ⟨some 22, .load false 1 (.tmp 21), none⟩,
      ⟨some 23, .bin .eql .num (.tmp 22) (.val (.lit (.int .u8 10))), none⟩]) (
   .cond (.tmp 23) (
     .seq (
      .seq (
       .ops [⟨some 24, .fieldAddr 4 (.tmp 2), none⟩,
         ⟨some 25, .load false 1 (.tmp 24), none⟩,
         ⟨some 26, .bin .lss .num (.tmp 25) (.val (.lit (.int .i64 0))), none⟩,
         ⟨some 27, .val (.tmp 26), none⟩,
         ⟨some 28, .fieldAddr 5 (.tmp 2), some (27, false)⟩,
         ⟨some 29, .load false 1 (.tmp 28), some (27, false)⟩,
         ⟨some 30, .len 1 (.tmp 29), some (27, false)⟩,
         ⟨some 31, .bin .gtr .num (.tmp 30) (.val (.lit (.int .i64 8))), some (27, false)⟩,
         ⟨some 32, .pick (.tmp 27) (.val (.lit (.bool true))) (.tmp 31), none⟩]) (
      .cond (.tmp 32) (
        .seq (
         .ops [⟨some 4, .val (.val (.lit (.bool false))), none⟩]) (
        .ret)) (
        .skip))) (
     .ops [⟨some 33, .fieldAddr 4 (.tmp 2), none⟩,
       ⟨none, .store 1 (.tmp 33) (.val (.lit (.int .i64 1))), none⟩])) (
     .skip))) (
  .seq (
   .seq (
    .ops [⟨some 34, .fieldAddr 0 (.tmp 2), none⟩,
      ⟨some 35, .load false 1 (.tmp 34), none⟩,
      ⟨some 36, .bin .geq .num (.tmp 35) (.val (.lit (.int .u8 5))), none⟩,
      ⟨some 37, .val (.tmp 36), none⟩,
      ⟨some 38, .fieldAddr 0 (.tmp 2), some (37, true)⟩,
      ⟨some 39, .load false 1 (.tmp 38), some (37, true)⟩,
      ⟨some 40, .bin .leq .num (.tmp 39) (.val (.lit (.int .u8 8))), some (37, true)⟩,
      ⟨some 41, .pick (.tmp 37) (.tmp 40) (.val (.lit (.bool false))), none⟩]) (
   .cond (.tmp 41) (
     .seq (
      .seq (
       .ops [⟨some 42, .fieldAddr 4 (.tmp 2), none⟩,
         ⟨some 43, .load false 1 (.tmp 42), none⟩,
         ⟨some 44, .bin .lss .num (.tmp 43) (.val (.lit (.int .i64 0))), none⟩]) (
      .cond (.tmp 44) (
        .seq (
         .ops [⟨some 4, .val (.val (.lit (.bool false))), none⟩]) (
        .ret)) (
        .skip))) (
     .ops [⟨some 45, .fieldAddr 4 (.tmp 2), none⟩,
       ⟨none, .store 1 (.tmp 45) (.val (.lit (.int .i64 0))), none⟩])) (
     .skip))) (
  .seq (
   .ops [⟨some 46, .load true 3 (.tmp 6), none⟩,
     ⟨some 47, .load true 6 (.tmp 2), none⟩,
     ⟨some 48, .call (.val (.fn (.func 39) [] [])) [(.tmp 46), (.val (.lit (.int .i64 0))), (.tmp 47)], none⟩,
     ⟨some 4, .val (.tmp 48), none⟩]) (
  .ret))))))

theorem c_bobbinref11_mayIns : codeOf Tryz.prog {  } 72 = some (a_bobbinref11_mayIns, [.tmp 4], 49) := by kernel_rfl

/-- bobbin/bobbinref11.block -/
def a_bobbinref11_blockb1 : ACode :=
       .seq (
        .seq (
         .ops [⟨some 66, .val (.tmp 10), none⟩,
           ⟨some 67, .fieldAddr 0 (.tmp 7), none⟩,
           ⟨some 68, .load false 1 (.tmp 67), none⟩,
           ⟨some 69, .len 1 (.tmp 68), none⟩,
           ⟨some 70, .bin .lss .num (.tmp 66) (.tmp 69), none⟩]) (
        .cond (.tmp 70) (
          .skip) (
          .exit 2))) (
       .seq (
        .block 3 (
          .seq (
           .ops [⟨some 73, .val (.tmp 1), none⟩,
             ⟨some 74, .bin .eql .num (.tmp 73) (.val (.lit (.int .i64 0))), none⟩,
             ⟨some 75, .val (.tmp 74), none⟩,
             ⟨some 76, .fieldAddr 0 (.tmp 7), some (75, false)⟩,
             ⟨some 78, .val (.tmp 10), some (75, false)⟩,
             ⟨some 83, .val (.tmp 2), some (75, false)⟩,
             ⟨some 77, .load false 1 (.tmp 76), some (75, false)⟩,
             ⟨some 79, .indexAddr 2 (.tmp 77) (.tmp 78), some (75, false)⟩,
             ⟨some 80, .fieldAddr 0 (.tmp 79), some (75, false)⟩,
             ⟨some 81, .load false 1 (.tmp 80), some (75, false)⟩,
             ⟨some 82, .bslice false 1 1 [(.lit (.int .i64 0))] [(0, 1, (.tmp 81))], some (75, false)⟩,
             ⟨some 84, .call (.val (.fn (.func 75) [] [])) [(.tmp 82), (.tmp 83)], some (75, false)⟩,
             ⟨some 85, .un .not (.tmp 84), some (75, false)⟩,
             ⟨some 86, .pick (.tmp 75) (.val (.lit (.bool true))) (.tmp 85), none⟩,
             ⟨some 87, .val (.tmp 86), none⟩,
             ⟨some 88, .fieldAddr 0 (.tmp 7), some (87, false)⟩,
             ⟨some 90, .val (.tmp 10), some (87, false)⟩,
             ⟨some 94, .val (.tmp 2), some (87, false)⟩,
             ⟨some 89, .load false 1 (.tmp 88), some (87, false)⟩,
             ⟨some 91, .indexAddr 2 (.tmp 89) (.tmp 90), some (87, false)⟩,
             ⟨some 92, .fieldAddr 1 (.tmp 91), some (87, false)⟩,
             ⟨some 93, .load false 1 (.tmp 92), some (87, false)⟩,
             ⟨some 95, .call (.val (.fn (.func 75) [] [])) [(.tmp 93), (.tmp 94)], some (87, false)⟩,
             ⟨some 96, .un .not (.tmp 95), some (87, false)⟩,
             ⟨some 97, .pick (.tmp 87) (.val (.lit (.bool true))) (.tmp 96), none⟩,
             ⟨some 98, .val (.tmp 97), none⟩,
             ⟨some 99, .fieldAddr 0 (.tmp 7), some (98, false)⟩,
             ⟨some 101, .val (.tmp 10), some (98, false)⟩,
             ⟨some 106, .fieldAddr 2 (.tmp 7), some (98, false)⟩,
             ⟨some 100, .load false 1 (.tmp 99), some (98, false)⟩,
             ⟨some 102, .indexAddr 2 (.tmp 100) (.tmp 101), some (98, false)⟩,
             ⟨some 103, .fieldAddr 1 (.tmp 102), some (98, false)⟩,
             ⟨some 104, .load false 1 (.tmp 103), some (98, false)⟩,
             ⟨some 105, .len 1 (.tmp 104), some (98, false)⟩,
             ⟨some 107, .load false 1 (.tmp 106), some (98, false)⟩,
             ⟨some 108, .len 1 (.tmp 107), some (98, false)⟩,
             ⟨some 109, .bin .neq .num (.tmp 105) (.tmp 108), some (98, false)⟩,
             ⟨some 110, .pick (.tmp 98) (.val (.lit (.bool true))) (.tmp 109), none⟩]) (
          .cond (.tmp 110) (
            .seq (
             .ops [⟨some 6, .val (.val (.lit (.bool false))), none⟩]) (
            .ret)) (
            .skip)))) (
       .ops [⟨some 71, .val (.tmp 10), none⟩,
         ⟨some 72, .bin .add .num (.tmp 71) (.val (.lit (.int .i64 1))), none⟩,
         ⟨some 10, .val (.tmp 72), none⟩]))

def a_bobbinref11_blockb2 : ACode :=
       .seq (
        .seq (
         .ops [⟨some 15, .val (.tmp 8), none⟩,
           ⟨some 16, .fieldAddr 1 (.tmp 7), none⟩,
           ⟨some 17, .load false 1 (.tmp 16), none⟩,
           ⟨some 18, .len 1 (.tmp 17), none⟩,
           ⟨some 19, .bin .lss .num (.tmp 15) (.tmp 18), none⟩]) (
        .cond (.tmp 19) (
          .skip) (
          .exit 0))) (
       .seq (
        .block 1 (
          .seq (
           .ops [⟨some 22, .fieldAddr 1 (.tmp 7), none⟩,
             ⟨some 23, .load false 1 (.tmp 22), none⟩,
             ⟨some 24, .val (.tmp 8), none⟩,
             ⟨some 25, .indexAddr 6 (.tmp 23) (.tmp 24), none⟩,
             ⟨some 26, .load true 6 (.tmp 25), none⟩,
             ⟨some 27, .val (.tmp 2), none⟩,
             ⟨some 28, .call (.val (.fn (.func 72) [] [])) [(.tmp 26), (.tmp 27)], none⟩,
             ⟨some 29, .un .not (.tmp 28), none⟩,
             ⟨some 30, .val (.tmp 29), none⟩,
             ⟨some 31, .val (.tmp 8), some (30, false)⟩,
             ⟨some 32, .fieldAddr 1 (.tmp 7), some (30, false)⟩,
             ⟨some 33, .load false 1 (.tmp 32), some (30, false)⟩,
             ⟨some 34, .len 1 (.tmp 33), some (30, false)⟩,
             ⟨some 35, .bin .sub .num (.tmp 34) (.val (.lit (.int .i64 1))), some (30, false)⟩,
             ⟨some 36, .bin .lss .num (.tmp 31) (.tmp 35), some (30, false)⟩,
             ⟨some 37, .val (.tmp 36), some (30, false)⟩,
             ⟨some 38, .fieldAddr 1 (.tmp 7), some (37, true)⟩,
             ⟨some 39, .load false 1 (.tmp 38), some (37, true)⟩,
             ⟨some 40, .val (.tmp 8), some (37, true)⟩,
             ⟨some 41, .indexAddr 6 (.tmp 39) (.tmp 40), some (37, true)⟩,
             ⟨some 42, .fieldAddr 0 (.tmp 41), some (37, true)⟩,
             ⟨some 43, .load false 1 (.tmp 42), some (37, true)⟩,
             ⟨some 44, .call (.val (.fn (.func 73) [] [])) [(.tmp 43)], some (37, true)⟩,
             ⟨some 45, .pick (.tmp 37) (.tmp 44) (.val (.lit (.bool false))), some (30, false)⟩,
             ⟨some 46, .pick (.tmp 30) (.val (.lit (.bool true))) (.tmp 45), none⟩]) (
          .cond (.tmp 46) (
            .seq (
             .ops [⟨some 6, .val (.val (.lit (.bool false))), none⟩]) (
            .ret)) (
            .skip)))) (
       .ops [⟨some 20, .val (.tmp 8), none⟩,
         ⟨some 21, .bin .add .num (.tmp 20) (.val (.lit (.int .i64 1))), none⟩,
         ⟨some 8, .val (.tmp 21), none⟩]))

def a_rb_rest : ACode :=
  .seq (
   .seq (
    .ops [⟨some 53, .fieldAddr 3 (.tmp 7), none⟩,
      ⟨some 54, .load false 1 (.tmp 53), none⟩,
      ⟨some 55, .len 1 (.tmp 54), none⟩,
      ⟨some 56, .val (.tmp 9), none⟩,
      ⟨some 57, .bin .neq .num (.tmp 55) (.tmp 56), none⟩,
      ⟨some 58, .val (.tmp 57), none⟩,
      ⟨some 59, .fieldAddr 3 (.tmp 7), some (58, false)⟩,
      ⟨some 60, .load false 1 (.tmp 59), some (58, false)⟩,
      ⟨some 61, .val (.tmp 0), some (58, false)⟩,
      ⟨some 62, .len 1 (.tmp 61), some (58, false)⟩,
      ⟨some 63, .call (.val (.fn (.func 75) [] [])) [(.tmp 60), (.tmp 62)], some (58, false)⟩,
      ⟨some 64, .un .not (.tmp 63), some (58, false)⟩,
      ⟨some 65, .pick (.tmp 58) (.val (.lit (.bool true))) (.tmp 64), none⟩]) (
   .cond (.tmp 65) (
     .seq (
      .ops [⟨some 6, .val (.val (.lit (.bool false))), none⟩]) (
     .ret)) (
     .skip))) (
  .seq (
   .seq (
    .ops [⟨some 10, .val (.val (.lit (.int .i64 0))), none⟩]) (
   .block 2 (
     .loop a_bobbinref11_blockb1))) (
  .seq (
   .ops [⟨some 6, .val (.val (.lit (.bool true))), none⟩]) (
  .ret)))

def a_bobbinref11_block : ACode :=
  .seq (
   .ops [⟨some 6, .val (.val (.lit (.bool false))), none⟩]) (
  .seq (
   .ops [⟨some 11, .val (.tmp 0), none⟩,
     ⟨some 12, .val (.tmp 1), none⟩,
     ⟨some 13, .indexAddr 4 (.tmp 11) (.tmp 12), none⟩,
     ⟨some 14, .load true 4 (.tmp 13), none⟩,
     ⟨some 7, .alloc [(.sl .nil 0 []), (.sl .nil 0 []), (.sl .nil 0 []), (.sl .nil 0 [])], none⟩,
     ⟨none, .store 4 (.tmp 7) (.tmp 14), none⟩]) (
  .seq (
   .seq (
    .ops [⟨some 8, .val (.val (.lit (.int .i64 0))), none⟩]) (
   .block 0 (
     .loop a_bobbinref11_blockb2))) (
  .seq (
   .ops [⟨some 9, .val (.val (.lit (.int .i64 1))), none⟩]) (
  .seq (
   .seq (
    .ops [⟨some 47, .load true 4 (.tmp 7), none⟩,
      ⟨some 48, .call (.val (.fn (.func 74) [] [])) [(.tmp 47)], none⟩,
      ⟨some 49, .bin .eql .num (.tmp 48) (.val (.lit (.int .u8 12))), none⟩]) (
   .cond (.tmp 49) (
     .ops [⟨some 9, .val (.val (.lit (.int .i64 2))), none⟩]) (
     .skip))) (
  .seq (
   .seq (
    .ops [⟨some 50, .load true 4 (.tmp 7), none⟩,
      ⟨some 51, .call (.val (.fn (.func 74) [] [])) [(.tmp 50)], none⟩,
      ⟨some 52, .bin .eql .num (.tmp 51) (.val (.lit (.int .u8 13))), none⟩]) (
   .cond (.tmp 52) (
     .ops [⟨some 9, .val (.val (.lit (.int .i64 0))), none⟩]) (
     .skip))) a_rb_rest)))))

theorem c_bobbinref11_block : codeOf Tryz.prog {  } 28 = some (a_bobbinref11_block, [.tmp 6], 111) := by kernel_rfl

/-- bobbin/bobbinref11.May -/
def a_bobbinref11_Mayb1 : ACode :=
              .seq (
               .seq (
                .ops [⟨some 85, .val (.tmp 7), none⟩,
                  ⟨some 86, .val (.tmp 3), none⟩,
                  ⟨some 87, .bin .lss .num (.tmp 85) (.tmp 86), none⟩,
                  ⟨some 88, .val (.tmp 87), none⟩,
                  ⟨some 89, .fieldAddr 4 (.tmp 1), some (88, true)⟩,
                  ⟨some 90, .iload false 1 (.tmp 89), some (88, true)⟩,
                  ⟨some 91, .val (.tmp 6), some (88, true)⟩,
                  ⟨some 92, .indexAddr 4 (.tmp 90) (.tmp 91), some (88, true)⟩,
                  ⟨some 93, .fieldAddr 1 (.tmp 92), some (88, true)⟩,
                  ⟨some 94, .load false 1 (.tmp 93), some (88, true)⟩,
                  ⟨some 95, .len 1 (.tmp 94), some (88, true)⟩,
                  ⟨some 96, .bin .eql .num (.tmp 95) (.val (.lit (.int .i64 0))), some (88, true)⟩,
                  ⟨some 97, .pick (.tmp 88) (.tmp 96) (.val (.lit (.bool false))), none⟩]) (
               .cond (.tmp 97) (
                 .skip) (
                 .exit 4))) (
              .seq (
               .block 5 (
                 .seq (
                  .ops [⟨some 100, .fieldAddr 4 (.tmp 1), none⟩,
                    ⟨some 101, .iload false 1 (.tmp 100), none⟩,
                    ⟨some 102, .val (.tmp 6), none⟩,
                    ⟨some 103, .indexAddr 4 (.tmp 101) (.tmp 102), none⟩,
                    ⟨some 104, .fieldAddr 3 (.tmp 103), none⟩,
                    ⟨some 105, .load false 1 (.tmp 104), none⟩,
                    ⟨some 106, .indexAddr 1 (.tmp 105) (.val (.lit (.int .i64 0))), none⟩,
                    ⟨some 107, .load false 1 (.tmp 106), none⟩,
                    ⟨some 6, .val (.tmp 107), none⟩]) (
                 .seq (
                  .ops [⟨some 108, .val (.tmp 6), none⟩,
                    ⟨some 109, .val (.tmp 5), none⟩,
                    ⟨some 110, .bin .eql .num (.tmp 108) (.tmp 109), none⟩]) (
                 .cond (.tmp 110) (
                   .seq (
                    .ops [⟨some 2, .val (.val (.lit (.bool false))), none⟩]) (
                   .ret)) (
                   .skip))))) (
              .ops [⟨some 98, .val (.tmp 7), none⟩,
                ⟨some 99, .bin .add .num (.tmp 98) (.val (.lit (.int .i64 1))), none⟩,
                ⟨some 7, .val (.tmp 99), none⟩]))

def a_bobbinref11_Mayb2 : ACode :=
       .seq (
        .seq (
         .ops [⟨some 67, .val (.tmp 5), none⟩,
           ⟨some 68, .val (.tmp 3), none⟩,
           ⟨some 69, .bin .lss .num (.tmp 67) (.tmp 68), none⟩]) (
        .cond (.tmp 69) (
          .skip) (
          .exit 2))) (
       .seq (
        .block 3 (
          .seq (
           .seq (
            .ops [⟨some 72, .fieldAddr 4 (.tmp 1), none⟩,
              ⟨some 73, .iload false 1 (.tmp 72), none⟩,
              ⟨some 74, .val (.tmp 5), none⟩,
              ⟨some 75, .indexAddr 4 (.tmp 73) (.tmp 74), none⟩,
              ⟨some 76, .fieldAddr 2 (.tmp 75), none⟩,
              ⟨some 77, .iload false 1 (.tmp 76), none⟩,
              ⟨some 78, .fieldAddr 4 (.tmp 1), none⟩,
              ⟨some 79, .iload false 1 (.tmp 78), none⟩,
              ⟨some 80, .val (.tmp 5), none⟩,
              ⟨some 81, .pcall (.val (.fn (.func 30) [] [])) [(.tmp 79), (.tmp 80)], none⟩,
              ⟨some 82, .call (.val (.fn (.func 29) [] [])) [(.tmp 77), (.tmp 81)], none⟩,
              ⟨some 83, .un .not (.tmp 82), none⟩]) (
           .cond (.tmp 83) (
             .seq (
              .ops [⟨some 2, .val (.val (.lit (.bool false))), none⟩]) (
             .ret)) (
             .skip))) (
          .seq (
           .ops [⟨some 84, .val (.tmp 5), none⟩,
             ⟨some 6, .val (.tmp 84), none⟩]) (
          .seq (
           .ops [⟨some 7, .val (.val (.lit (.int .i64 0))), none⟩]) (
          .block 4 (
            .loop a_bobbinref11_Mayb1)))))) (
       .ops [⟨some 70, .val (.tmp 5), none⟩,
         ⟨some 71, .bin .add .num (.tmp 70) (.val (.lit (.int .i64 1))), none⟩,
         ⟨some 5, .val (.tmp 71), none⟩]))

def a_bobbinref11_Mayb3 : ACode :=
       .seq (
        .seq (
         .ops [⟨some 48, .val (.tmp 4), none⟩,
           ⟨some 49, .val (.tmp 3), none⟩,
           ⟨some 50, .bin .lss .num (.tmp 48) (.tmp 49), none⟩]) (
        .cond (.tmp 50) (
          .skip) (
          .exit 0))) (
       .seq (
        .block 1 (
          .seq (
           .ops [⟨some 53, .fieldAddr 4 (.tmp 1), none⟩,
             ⟨some 54, .iload false 1 (.tmp 53), none⟩,
             ⟨some 55, .val (.tmp 4), none⟩,
             ⟨some 56, .fieldAddr 3 (.tmp 1), none⟩,
             ⟨some 57, .iload false 1 (.tmp 56), none⟩,
             ⟨some 58, .call (.val (.fn (.func 28) [] [])) [(.tmp 54), (.tmp 55), (.tmp 57)], none⟩,
             ⟨some 59, .un .not (.tmp 58), none⟩]) (
          .cond (.tmp 59) (
            .seq (
             .ops [⟨some 2, .val (.val (.lit (.bool false))), none⟩]) (
            .ret)) (
            .skip)))) (
       .ops [⟨some 51, .val (.tmp 4), none⟩,
         ⟨some 52, .bin .add .num (.tmp 51) (.val (.lit (.int .i64 1))), none⟩,
         ⟨some 4, .val (.tmp 52), none⟩]))

def a_bobbinref11_May : ACode :=
  .seq (
   .ops [⟨some 1, .box true (.tmp 0), none⟩,
     ⟨some 2, .val (.val (.lit (.bool false))), none⟩]) (
  .seq (
   .ops [⟨some 8, .fieldAddr 4 (.tmp 1), none⟩,
     ⟨some 9, .iload false 1 (.tmp 8), none⟩,
     ⟨some 10, .len 1 (.tmp 9), none⟩,
     ⟨some 3, .val (.tmp 10), none⟩]) (
  .seq (
   .seq (
    .ops [⟨some 11, .fieldAddr 2 (.tmp 1), none⟩,
      ⟨some 12, .iload false 1 (.tmp 11), none⟩,
      ⟨some 13, .bin .lss .num (.tmp 12) (.val (.lit (.int .i64 0))), none⟩,
      ⟨some 14, .val (.tmp 13), none⟩,
      ⟨some 15, .fieldAddr 2 (.tmp 1), some (14, false)⟩,
      ⟨some 16, .iload false 1 (.tmp 15), some (14, false)⟩,
      ⟨some 17, .bin .gtr .num (.tmp 16) (.val (.lit (.int .i64 8))), some (14, false)⟩,
      ⟨some 18, .pick (.tmp 14) (.val (.lit (.bool true))) (.tmp 17), none⟩,
      ⟨some 19, .val (.tmp 18), none⟩,
      ⟨some 20, .fieldAddr 1 (.tmp 1), some (19, false)⟩,
      ⟨some 21, .iload false 1 (.tmp 20), some (19, false)⟩,
      ⟨some 22, .val (.tmp 21), some (19, false)⟩,
      ⟨some 23, .fieldAddr 2 (.tmp 1), some (22, true)⟩,
      ⟨some 24, .iload false 1 (.tmp 23), some (22, true)⟩,
      ⟨some 25, .bin .neq .num (.tmp 24) (.val (.lit (.int .i64 0))), some (22, true)⟩,
      ⟨some 26, .pick (.tmp 22) (.tmp 25) (.val (.lit (.bool false))), some (19, false)⟩,
      ⟨some 27, .pick (.tmp 19) (.val (.lit (.bool true))) (.tmp 26), none⟩,
      ⟨some 28, .val (.tmp 27), none⟩,
      ⟨some 29, .fieldAddr 3 (.tmp 1), some (28, false)⟩,
      ⟨some 30, .iload false 1 (.tmp 29), some (28, false)⟩,
      ⟨some 31, .fieldAddr 2 (.tmp 1), some (28, false)⟩,
      ⟨some 32, .iload false 1 (.tmp 31), some (28, false)⟩,
      ⟨some 33, .bin .lss .num (.tmp 30) (.tmp 32), some (28, false)⟩,
      ⟨some 34, .pick (.tmp 28) (.val (.lit (.bool true))) (.tmp 33), none⟩,
      ⟨some 35, .val (.tmp 34), none⟩,
      ⟨some 36, .fieldAddr 3 (.tmp 1), some (35, false)⟩,
      ⟨some 37, .iload false 1 (.tmp 36), some (35, false)⟩,
      ⟨some 38, .bin .gtr .num (.tmp 37) (.val (.lit (.int .i64 65536))), some (35, false)⟩,
      ⟨some 39, .pick (.tmp 35) (.val (.lit (.bool true))) (.tmp 38), none⟩,
      ⟨some 40, .val (.tmp 39), none⟩,
      ⟨some 41, .val (.tmp 3), some (40, false)⟩,
      ⟨some 42, .bin .lss .num (.tmp 41) (.val (.lit (.int .i64 1))), some (40, false)⟩,
      ⟨some 43, .pick (.tmp 40) (.val (.lit (.bool true))) (.tmp 42), none⟩,
      ⟨some 44, .val (.tmp 43), none⟩,
      ⟨some 45, .val (.tmp 3), some (44, false)⟩,
      ⟨some 46, .bin .gtr .num (.tmp 45) (.val (.lit (.int .i64 32768))), some (44, false)⟩,
      ⟨some 47, .pick (.tmp 44) (.val (.lit (.bool true))) (.tmp 46), none⟩]) (
   .cond (.tmp 47) (
     .seq (
      .ops [⟨some 2, .val (.val (.lit (.bool false))), none⟩]) (
     .ret)) (
     .skip))) (
  .seq (
   .seq (
    .ops [⟨some 4, .val (.val (.lit (.int .i64 0))), none⟩]) (
   .block 0 (
     .loop a_bobbinref11_Mayb3))) (
  .seq (
   .seq (
    .ops [⟨some 60, .fieldAddr 4 (.tmp 1), none⟩,
      ⟨some 61, .iload false 1 (.tmp 60), none⟩,
      ⟨some 62, .indexAddr 4 (.tmp 61) (.val (.lit (.int .i64 0))), none⟩,
      ⟨some 63, .fieldAddr 2 (.tmp 62), none⟩,
      ⟨some 64, .load false 1 (.tmp 63), none⟩,
      ⟨some 65, .len 1 (.tmp 64), none⟩,
      ⟨some 66, .bin .gtr .num (.tmp 65) (.val (.lit (.int .i64 0))), none⟩]) (
   .cond (.tmp 66) (
     .seq (
      .ops [⟨some 2, .val (.val (.lit (.bool false))), none⟩]) (
     .ret)) (
     .skip))) (
  .seq (
   .seq (
    .ops [⟨some 5, .val (.val (.lit (.int .i64 0))), none⟩]) (
   .block 2 (
     .loop a_bobbinref11_Mayb2))) (
  .seq (
   .ops [⟨some 2, .val (.val (.lit (.bool true))), none⟩]) (
  .ret)))))))

theorem c_bobbinref11_May : codeOf Tryz.prog { pc := [81], bz := [1], il := [9, 12, 16, 21, 24, 30, 32, 37, 54, 57, 61, 73, 79, 90, 101, 77] } 9 = some (a_bobbinref11_May, [.tmp 2], 111) := by kernel_rfl

/-- bobbin/bobbinref11.MayForm -/
def a_bobbinref11_MayFormb1 : ACode :=
                     .seq (
                      .seq (
                       .ops [⟨some 92, .val (.tmp 9), none⟩,
                         ⟨some 93, .val (.tmp 8), none⟩,
                         ⟨some 94, .len 1 (.tmp 93), none⟩,
                         ⟨some 95, .bin .lss .num (.tmp 92) (.tmp 94), none⟩]) (
                      .cond (.tmp 95) (
                        .skip) (
                        .exit 6))) (
                     .seq (
                      .block 7 (
                        .seq (
                         .ops [⟨some 99, .val (.tmp 6), none⟩,
                           ⟨some 100, .val (.tmp 8), none⟩,
                           ⟨some 101, .val (.tmp 9), none⟩,
                           ⟨some 102, .indexAddr 6 (.tmp 100) (.tmp 101), none⟩,
                           ⟨some 98, .load true 3 (.tmp 3), none⟩,
                           ⟨some 103, .load true 6 (.tmp 102), none⟩,
                           ⟨some 104, .call (.val (.fn (.func 39) [] [])) [(.tmp 98), (.tmp 99), (.tmp 103)], none⟩,
                           ⟨some 105, .un .not (.tmp 104), none⟩]) (
                        .cond (.tmp 105) (
                          .seq (
                           .ops [⟨some 2, .val (.val (.lit (.bool false))), none⟩]) (
                          .ret)) (
                          .skip)))) (
                     .ops [⟨some 96, .val (.tmp 9), none⟩,
                       ⟨some 97, .bin .add .num (.tmp 96) (.val (.lit (.int .i64 1))), none⟩,
                       ⟨some 9, .val (.tmp 97), none⟩]))

def a_bobbinref11_MayFormb2 : ACode :=
              .seq (
               .seq (
                .ops [⟨some 71, .val (.tmp 7), none⟩,
                  ⟨some 72, .fieldAddr 2 (.tmp 1), none⟩,
                  ⟨some 73, .iload false 1 (.tmp 72), none⟩,
                  ⟨some 74, .val (.tmp 6), none⟩,
                  ⟨some 75, .indexAddr 5 (.tmp 73) (.tmp 74), none⟩,
                  ⟨some 76, .fieldAddr 4 (.tmp 75), none⟩,
                  ⟨some 77, .load false 1 (.tmp 76), none⟩,
                  ⟨some 78, .len 1 (.tmp 77), none⟩,
                  ⟨some 79, .bin .lss .num (.tmp 71) (.tmp 78), none⟩]) (
               .cond (.tmp 79) (
                 .skip) (
                 .exit 4))) (
              .seq (
               .block 5 (
                 .seq (
                  .ops [⟨some 82, .fieldAddr 2 (.tmp 1), none⟩,
                    ⟨some 83, .iload false 1 (.tmp 82), none⟩,
                    ⟨some 84, .val (.tmp 6), none⟩,
                    ⟨some 85, .indexAddr 5 (.tmp 83) (.tmp 84), none⟩,
                    ⟨some 86, .fieldAddr 4 (.tmp 85), none⟩,
                    ⟨some 87, .load false 1 (.tmp 86), none⟩,
                    ⟨some 88, .val (.tmp 7), none⟩,
                    ⟨some 89, .indexAddr 4 (.tmp 87) (.tmp 88), none⟩,
                    ⟨some 90, .fieldAddr 1 (.tmp 89), none⟩,
                    ⟨some 91, .load false 1 (.tmp 90), none⟩,
                    ⟨some 8, .val (.tmp 91), none⟩]) (
                 .seq (
                  .ops [⟨some 9, .val (.val (.lit (.int .i64 0))), none⟩]) (
                 .block 6 (
                   .loop a_bobbinref11_MayFormb1))))) (
              .ops [⟨some 80, .val (.tmp 7), none⟩,
                ⟨some 81, .bin .add .num (.tmp 80) (.val (.lit (.int .i64 1))), none⟩,
                ⟨some 7, .val (.tmp 81), none⟩]))

def a_bobbinref11_MayFormb3 : ACode :=
       .seq (
        .seq (
         .ops [⟨some 46, .val (.tmp 6), none⟩,
           ⟨some 47, .fieldAddr 2 (.tmp 1), none⟩,
           ⟨some 48, .iload false 1 (.tmp 47), none⟩,
           ⟨some 49, .len 1 (.tmp 48), none⟩,
           ⟨some 50, .bin .lss .num (.tmp 46) (.tmp 49), none⟩]) (
        .cond (.tmp 50) (
          .skip) (
          .exit 2))) (
       .seq (
        .block 3 (
          .seq (
           .seq (
            .ops [⟨some 53, .fieldAddr 2 (.tmp 1), none⟩,
              ⟨some 54, .iload false 1 (.tmp 53), none⟩,
              ⟨some 55, .val (.tmp 6), none⟩,
              ⟨some 56, .indexAddr 5 (.tmp 54) (.tmp 55), none⟩,
              ⟨some 57, .load true 5 (.tmp 56), none⟩,
              ⟨some 58, .call (.val (.fn (.func 9) [] [])) [(.tmp 57)], none⟩,
              ⟨some 59, .un .not (.tmp 58), none⟩]) (
           .cond (.tmp 59) (
             .seq (
              .ops [⟨some 2, .val (.val (.lit (.bool false))), none⟩]) (
             .ret)) (
             .skip))) (
          .seq (
           .ops [⟨some 60, .fieldAddr 2 (.tmp 3), none⟩,
             ⟨some 62, .val (.tmp 6), none⟩,
             ⟨some 63, .fieldAddr 2 (.tmp 1), none⟩,
             ⟨some 64, .iload false 1 (.tmp 63), none⟩,
             ⟨some 65, .val (.tmp 6), none⟩,
             ⟨some 66, .indexAddr 5 (.tmp 64) (.tmp 65), none⟩,
             ⟨some 67, .fieldAddr 3 (.tmp 66), none⟩,
             ⟨some 61, .load false 1 (.tmp 60), none⟩,
             ⟨some 68, .load false 1 (.tmp 67), none⟩,
             ⟨some 69, .indexAddr 5 (.tmp 61) (.tmp 62), none⟩,
             ⟨some 70, .fieldAddr 3 (.tmp 69), none⟩,
             ⟨none, .store 1 (.tmp 70) (.tmp 68), none⟩]) (
          .seq (
           .ops [⟨some 7, .val (.val (.lit (.int .i64 0))), none⟩]) (
          .block 4 (
            .loop a_bobbinref11_MayFormb2)))))) (
       .ops [⟨some 51, .val (.tmp 6), none⟩,
         ⟨some 52, .bin .add .num (.tmp 51) (.val (.lit (.int .i64 1))), none⟩,
         ⟨some 6, .val (.tmp 52), none⟩]))

def a_bobbinref11_MayFormb4 : ACode :=
       .seq (
        .seq (
         .ops [⟨some 15, .val (.tmp 4), none⟩,
           ⟨some 16, .fieldAddr 2 (.tmp 1), none⟩,
           ⟨some 17, .iload false 1 (.tmp 16), none⟩,
           ⟨some 18, .len 1 (.tmp 17), none⟩,
           ⟨some 19, .bin .lss .num (.tmp 15) (.tmp 18), none⟩]) (
        .cond (.tmp 19) (
          .skip) (
          .exit 0))) (
       .seq (
        .block 1 (
          .seq (
           .ops [⟨some 22, .fieldAddr 2 (.tmp 1), none⟩,
             ⟨some 23, .iload false 1 (.tmp 22), none⟩,
             ⟨some 24, .val (.tmp 4), none⟩,
             ⟨some 25, .indexAddr 5 (.tmp 23) (.tmp 24), none⟩,
             ⟨some 26, .load true 5 (.tmp 25), none⟩,
             ⟨some 5, .alloc [(.lit (.string ⟨#[]⟩)), (.lit (.bool false)), (.lit (.int .i64 0)), (.lit (.int .i64 0)), (.sl .nil 0 [])], none⟩,
             ⟨none, .store 5 (.tmp 5) (.tmp 26), none⟩]) (
          .ops [⟨some 27, .fieldAddr 2 (.tmp 3), none⟩,
            ⟨some 28, .load false 1 (.tmp 27), none⟩,
            ⟨some 29, .fieldAddr 0 (.tmp 5), none⟩,
            ⟨some 30, .load false 1 (.tmp 29), none⟩,
            ⟨some 31, .fieldAddr 1 (.tmp 5), none⟩,
            ⟨some 32, .load false 1 (.tmp 31), none⟩,
            ⟨some 33, .fieldAddr 2 (.tmp 5), none⟩,
            ⟨some 34, .load false 1 (.tmp 33), none⟩,
            ⟨some 35, .fieldAddr 2 (.tmp 5), none⟩,
            ⟨some 36, .load false 1 (.tmp 35), none⟩,
            ⟨some 37, .build [(.lit (.int .u8 0)), (.lit (.int .i64 0)), (.lit (.int .i64 0)), (.lit (.int .i64 0)), (.lit (.int .i64 0)), (.sl .nil 0 [])] [(0, 1, (.val (.lit (.int .u8 11))))], none⟩,
            ⟨some 38, .bslice false 6 1 [(.lit (.int .u8 0)), (.lit (.int .i64 0)), (.lit (.int .i64 0)), (.lit (.int .i64 0)), (.lit (.int .i64 0)), (.sl .nil 0 [])] [(0, 6, (.tmp 37))], none⟩,
            ⟨some 39, .build [(.lit (.string ⟨#[]⟩)), (.lit (.bool false)), (.lit (.int .i64 0)), (.lit (.int .i64 0)), (.sl .nil 0 [])] [(0, 1, (.tmp 30)), (1, 1, (.tmp 32)), (2, 1, (.tmp 34)), (3, 1, (.tmp 36)), (4, 1, (.tmp 38))], none⟩,
            ⟨some 40, .bslice false 5 1 [(.lit (.string ⟨#[]⟩)), (.lit (.bool false)), (.lit (.int .i64 0)), (.lit (.int .i64 0)), (.sl .nil 0 [])] [(0, 5, (.tmp 39))], none⟩,
            ⟨some 41, .append false 5 64 (.tmp 28) (.tmp 40), none⟩,
            ⟨some 42, .fieldAddr 2 (.tmp 3), none⟩,
            ⟨none, .store 1 (.tmp 42) (.tmp 41), none⟩]))) (
       .ops [⟨some 20, .val (.tmp 4), none⟩,
         ⟨some 21, .bin .add .num (.tmp 20) (.val (.lit (.int .i64 1))), none⟩,
         ⟨some 4, .val (.tmp 21), none⟩]))

def a_bobbinref11_MayForm : ACode :=
  .seq (
   .ops [⟨some 1, .box true (.tmp 0), none⟩,
     ⟨some 2, .val (.val (.lit (.bool false))), none⟩]) (
  .seq (
   .ops [⟨some 10, .fieldAddr 0 (.tmp 1), none⟩,
     ⟨some 11, .iload false 1 (.tmp 10), none⟩,
     ⟨some 12, .fieldAddr 1 (.tmp 1), none⟩,
     ⟨some 13, .iload false 1 (.tmp 12), none⟩,
     ⟨some 14, .build [(.sl .nil 0 []), (.sl .nil 0 []), (.sl .nil 0 [])] [(0, 1, (.tmp 11)), (1, 1, (.tmp 13))], none⟩,
     ⟨some 3, .alloc [(.sl .nil 0 []), (.sl .nil 0 []), (.sl .nil 0 [])], none⟩,
     ⟨none, .store 3 (.tmp 3) (.tmp 14), none⟩]) (
  .seq (
   .seq (
    .ops [⟨some 4, .val (.val (.lit (.int .i64 0))), none⟩]) (
   .block 0 (
     .loop a_bobbinref11_MayFormb4))) (
  .seq (
   .seq (
    .ops [⟨some 43, .load true 3 (.tmp 3), none⟩,
      ⟨some 44, .call (.val (.fn (.func 38) [] [])) [(.tmp 43)], none⟩,
      ⟨some 45, .un .not (.tmp 44), none⟩]) (
   .cond (.tmp 45) (
     .seq (
      .ops [⟨some 2, .val (.val (.lit (.bool false))), none⟩]) (
     .ret)) (
     .skip))) (
  .seq (
   .seq (
    .ops [⟨some 6, .val (.val (.lit (.int .i64 0))), none⟩]) (
   .block 2 (
     .loop a_bobbinref11_MayFormb3))) (
  .seq (
   .ops [⟨some 2, .val (.val (.lit (.bool true))), none⟩]) (
  .ret))))))

theorem c_bobbinref11_MayForm : codeOf Tryz.prog { bz := [1], il := [11, 13, 17, 23, 48, 54, 64, 73, 83] } 13 = some (a_bobbinref11_MayForm, [.tmp 2], 106) := by kernel_rfl

/-- bobbin/bobbinref11.SameGraph -/
def a_bobbinref11_SameGraphb1 : ACode :=
              .seq (
               .seq (
                .ops [⟨some 130, .val (.tmp 9), none⟩,
                  ⟨some 131, .fieldAddr 1 (.tmp 6), none⟩,
                  ⟨some 132, .load false 1 (.tmp 131), none⟩,
                  ⟨some 133, .len 1 (.tmp 132), none⟩,
                  ⟨some 134, .bin .lss .num (.tmp 130) (.tmp 133), none⟩]) (
               .cond (.tmp 134) (
                 .skip) (
                 .exit 4))) (
              .seq (
               .block 5 (
                 .seq (
                  .ops [⟨some 137, .fieldAddr 1 (.tmp 6), none⟩,
                    ⟨some 139, .val (.tmp 9), none⟩,
                    ⟨some 142, .fieldAddr 1 (.tmp 7), none⟩,
                    ⟨some 144, .val (.tmp 9), none⟩,
                    ⟨some 138, .load false 1 (.tmp 137), none⟩,
                    ⟨some 140, .indexAddr 6 (.tmp 138) (.tmp 139), none⟩,
                    ⟨some 141, .load true 6 (.tmp 140), none⟩,
                    ⟨some 143, .load false 1 (.tmp 142), none⟩,
                    ⟨some 145, .indexAddr 6 (.tmp 143) (.tmp 144), none⟩,
                    ⟨some 146, .load true 6 (.tmp 145), none⟩,
                    ⟨some 147, .call (.val (.fn (.func 33) [] [])) [(.tmp 141), (.tmp 146)], none⟩,
                    ⟨some 148, .un .not (.tmp 147), none⟩]) (
                 .cond (.tmp 148) (
                   .seq (
                    .ops [⟨some 4, .val (.val (.lit (.bool false))), none⟩]) (
                   .ret)) (
                   .skip)))) (
              .ops [⟨some 135, .val (.tmp 9), none⟩,
                ⟨some 136, .bin .add .num (.tmp 135) (.val (.lit (.int .i64 1))), none⟩,
                ⟨some 9, .val (.tmp 136), none⟩]))

def a_bobbinref11_SameGraphb2 : ACode :=
               .seq (
                .seq (
                 .ops [⟨some 94, .val (.tmp 8), none⟩,
                   ⟨some 95, .fieldAddr 0 (.tmp 6), none⟩,
                   ⟨some 96, .load false 1 (.tmp 95), none⟩,
                   ⟨some 97, .len 1 (.tmp 96), none⟩,
                   ⟨some 98, .bin .lss .num (.tmp 94) (.tmp 97), none⟩]) (
                .cond (.tmp 98) (
                  .skip) (
                  .exit 2))) (
               .seq (
                .block 3 (
                  .seq (
                   .ops [⟨some 101, .fieldAddr 0 (.tmp 6), none⟩,
                     ⟨some 103, .val (.tmp 8), none⟩,
                     ⟨some 107, .fieldAddr 0 (.tmp 7), none⟩,
                     ⟨some 109, .val (.tmp 8), none⟩,
                     ⟨some 102, .load false 1 (.tmp 101), none⟩,
                     ⟨some 104, .indexAddr 2 (.tmp 102) (.tmp 103), none⟩,
                     ⟨some 105, .fieldAddr 0 (.tmp 104), none⟩,
                     ⟨some 106, .load false 1 (.tmp 105), none⟩,
                     ⟨some 108, .load false 1 (.tmp 107), none⟩,
                     ⟨some 110, .indexAddr 2 (.tmp 108) (.tmp 109), none⟩,
                     ⟨some 111, .fieldAddr 0 (.tmp 110), none⟩,
                     ⟨some 112, .load false 1 (.tmp 111), none⟩,
                     ⟨some 113, .bin .neq .num (.tmp 106) (.tmp 112), none⟩,
                     ⟨some 114, .val (.tmp 113), none⟩,
                     ⟨some 115, .fieldAddr 0 (.tmp 6), some (114, false)⟩,
                     ⟨some 117, .val (.tmp 8), some (114, false)⟩,
                     ⟨some 121, .fieldAddr 0 (.tmp 7), some (114, false)⟩,
                     ⟨some 123, .val (.tmp 8), some (114, false)⟩,
                     ⟨some 116, .load false 1 (.tmp 115), some (114, false)⟩,
                     ⟨some 118, .indexAddr 2 (.tmp 116) (.tmp 117), some (114, false)⟩,
                     ⟨some 119, .fieldAddr 1 (.tmp 118), some (114, false)⟩,
                     ⟨some 120, .load false 1 (.tmp 119), some (114, false)⟩,
                     ⟨some 122, .load false 1 (.tmp 121), some (114, false)⟩,
                     ⟨some 124, .indexAddr 2 (.tmp 122) (.tmp 123), some (114, false)⟩,
                     ⟨some 125, .fieldAddr 1 (.tmp 124), some (114, false)⟩,
                     ⟨some 126, .load false 1 (.tmp 125), some (114, false)⟩,
                     ⟨some 127, .call (.val (.fn (.func 29) [] [])) [(.tmp 120), (.tmp 126)], some (114, false)⟩,
                     ⟨some 128, .un .not (.tmp 127), some (114, false)⟩,
                     ⟨some 129, .pick (.tmp 114) (.val (.lit (.bool true))) (.tmp 128), none⟩]) (
                  .cond (.tmp 129) (
                    .seq (
                     .ops [⟨some 4, .val (.val (.lit (.bool false))), none⟩]) (
                    .ret)) (
                    .skip)))) (
               .ops [⟨some 99, .val (.tmp 8), none⟩,
                 ⟨some 100, .bin .add .num (.tmp 99) (.val (.lit (.int .i64 1))), none⟩,
                 ⟨some 8, .val (.tmp 100), none⟩]))

def a_rsg_h : ACode :=
           .seq (
            .ops [⟨some 62, .fieldAddr 2 (.tmp 6), none⟩,
              ⟨some 63, .load false 1 (.tmp 62), none⟩,
              ⟨some 64, .fieldAddr 2 (.tmp 7), none⟩,
              ⟨some 65, .load false 1 (.tmp 64), none⟩,
              ⟨some 66, .call (.val (.fn (.func 29) [] [])) [(.tmp 63), (.tmp 65)], none⟩,
              ⟨some 67, .un .not (.tmp 66), none⟩,
              ⟨some 68, .val (.tmp 67), none⟩,
              ⟨some 69, .fieldAddr 3 (.tmp 6), some (68, false)⟩,
              ⟨some 70, .load false 1 (.tmp 69), some (68, false)⟩,
              ⟨some 71, .fieldAddr 3 (.tmp 7), some (68, false)⟩,
              ⟨some 72, .load false 1 (.tmp 71), some (68, false)⟩,
              ⟨some 73, .call (.val (.fn (.func 29) [] [])) [(.tmp 70), (.tmp 72)], some (68, false)⟩,
              ⟨some 74, .un .not (.tmp 73), some (68, false)⟩,
              ⟨some 75, .pick (.tmp 68) (.val (.lit (.bool true))) (.tmp 74), none⟩,
              ⟨some 76, .val (.tmp 75), none⟩,
              ⟨some 77, .fieldAddr 0 (.tmp 6), some (76, false)⟩,
              ⟨some 78, .load false 1 (.tmp 77), some (76, false)⟩,
              ⟨some 79, .len 1 (.tmp 78), some (76, false)⟩,
              ⟨some 80, .fieldAddr 0 (.tmp 7), some (76, false)⟩,
              ⟨some 81, .load false 1 (.tmp 80), some (76, false)⟩,
              ⟨some 82, .len 1 (.tmp 81), some (76, false)⟩,
              ⟨some 83, .bin .neq .num (.tmp 79) (.tmp 82), some (76, false)⟩,
              ⟨some 84, .pick (.tmp 76) (.val (.lit (.bool true))) (.tmp 83), none⟩,
              ⟨some 85, .val (.tmp 84), none⟩,
              ⟨some 86, .fieldAddr 1 (.tmp 6), some (85, false)⟩,
              ⟨some 87, .load false 1 (.tmp 86), some (85, false)⟩,
              ⟨some 88, .len 1 (.tmp 87), some (85, false)⟩,
              ⟨some 89, .fieldAddr 1 (.tmp 7), some (85, false)⟩,
              ⟨some 90, .load false 1 (.tmp 89), some (85, false)⟩,
              ⟨some 91, .len 1 (.tmp 90), some (85, false)⟩,
              ⟨some 92, .bin .neq .num (.tmp 88) (.tmp 91), some (85, false)⟩,
              ⟨some 93, .pick (.tmp 85) (.val (.lit (.bool true))) (.tmp 92), none⟩]) (
           .cond (.tmp 93) (
             .seq (
              .ops [⟨some 4, .val (.val (.lit (.bool false))), none⟩]) (
             .ret)) (
             .skip))

def a_rsg_p : ACode :=
           .seq (
            .ops [⟨some 8, .val (.val (.lit (.int .i64 0))), none⟩]) (
           .block 2 (
             .loop a_bobbinref11_SameGraphb2))

def a_rsg_c : ACode :=
          .seq (
           .ops [⟨some 9, .val (.val (.lit (.int .i64 0))), none⟩]) (
          .block 4 (
            .loop a_bobbinref11_SameGraphb1))

def a_bobbinref11_SameGraphb3 : ACode :=
       .seq (
        .seq (
         .ops [⟨some 45, .val (.tmp 5), none⟩,
           ⟨some 46, .fieldAddr 4 (.tmp 2), none⟩,
           ⟨some 47, .iload false 1 (.tmp 46), none⟩,
           ⟨some 48, .len 1 (.tmp 47), none⟩,
           ⟨some 49, .bin .lss .num (.tmp 45) (.tmp 48), none⟩]) (
        .cond (.tmp 49) (
          .skip) (
          .exit 0))) (
       .seq (
        .block 1 (
          .seq (
           .ops [⟨some 52, .fieldAddr 4 (.tmp 2), none⟩,
             ⟨some 53, .iload false 1 (.tmp 52), none⟩,
             ⟨some 54, .val (.tmp 5), none⟩,
             ⟨some 55, .indexAddr 4 (.tmp 53) (.tmp 54), none⟩,
             ⟨some 56, .load true 4 (.tmp 55), none⟩,
             ⟨some 6, .alloc [(.sl .nil 0 []), (.sl .nil 0 []), (.sl .nil 0 []), (.sl .nil 0 [])], none⟩,
             ⟨none, .store 4 (.tmp 6) (.tmp 56), none⟩]) (
          .seq (
           .ops [⟨some 57, .fieldAddr 4 (.tmp 3), none⟩,
             ⟨some 58, .iload false 1 (.tmp 57), none⟩,
             ⟨some 59, .val (.tmp 5), none⟩,
             ⟨some 60, .indexAddr 4 (.tmp 58) (.tmp 59), none⟩,
             ⟨some 61, .load true 4 (.tmp 60), none⟩,
             ⟨some 7, .alloc [(.sl .nil 0 []), (.sl .nil 0 []), (.sl .nil 0 []), (.sl .nil 0 [])], none⟩,
             ⟨none, .store 4 (.tmp 7) (.tmp 61), none⟩]) (
          .seq a_rsg_h (
          .seq a_rsg_p a_rsg_c))))) (
       .ops [⟨some 50, .val (.tmp 5), none⟩,
         ⟨some 51, .bin .add .num (.tmp 50) (.val (.lit (.int .i64 1))), none⟩,
         ⟨some 5, .val (.tmp 51), none⟩]))

def a_bobbinref11_SameGraph : ACode :=
  .seq (
   .ops [⟨some 2, .box true (.tmp 0), none⟩,
     ⟨some 3, .box true (.tmp 1), none⟩,
     ⟨some 4, .val (.val (.lit (.bool false))), none⟩]) (
  .seq (
   .seq (
    .ops [⟨some 10, .fieldAddr 0 (.tmp 2), none⟩,
      ⟨some 11, .iload false 1 (.tmp 10), none⟩,
      ⟨some 12, .fieldAddr 0 (.tmp 3), none⟩,
      ⟨some 13, .iload false 1 (.tmp 12), none⟩,
      ⟨some 14, .bin .neq .num (.tmp 11) (.tmp 13), none⟩,
      ⟨some 15, .val (.tmp 14), none⟩,
      ⟨some 16, .fieldAddr 1 (.tmp 2), some (15, false)⟩,
      ⟨some 17, .iload false 1 (.tmp 16), some (15, false)⟩,
      ⟨some 18, .fieldAddr 1 (.tmp 3), some (15, false)⟩,
      ⟨some 19, .iload false 1 (.tmp 18), some (15, false)⟩,
      ⟨some 20, .bin .neq .bool (.tmp 17) (.tmp 19), some (15, false)⟩,
      ⟨some 21, .pick (.tmp 15) (.val (.lit (.bool true))) (.tmp 20), none⟩,
      ⟨some 22, .val (.tmp 21), none⟩,
      ⟨some 23, .fieldAddr 2 (.tmp 2), some (22, false)⟩,
      ⟨some 24, .iload false 1 (.tmp 23), some (22, false)⟩,
      ⟨some 25, .fieldAddr 2 (.tmp 3), some (22, false)⟩,
      ⟨some 26, .iload false 1 (.tmp 25), some (22, false)⟩,
      ⟨some 27, .bin .neq .num (.tmp 24) (.tmp 26), some (22, false)⟩,
      ⟨some 28, .pick (.tmp 22) (.val (.lit (.bool true))) (.tmp 27), none⟩,
      ⟨some 29, .val (.tmp 28), none⟩,
      ⟨some 30, .fieldAddr 3 (.tmp 2), some (29, false)⟩,
      ⟨some 31, .iload false 1 (.tmp 30), some (29, false)⟩,
      ⟨some 32, .fieldAddr 3 (.tmp 3), some (29, false)⟩,
      ⟨some 33, .iload false 1 (.tmp 32), some (29, false)⟩,
      ⟨some 34, .bin .neq .num (.tmp 31) (.tmp 33), some (29, false)⟩,
      ⟨some 35, .pick (.tmp 29) (.val (.lit (.bool true))) (.tmp 34), none⟩,
      ⟨some 36, .val (.tmp 35), none⟩,
      ⟨some 37, .fieldAddr 4 (.tmp 2), some (36, false)⟩,
      ⟨some 38, .iload false 1 (.tmp 37), some (36, false)⟩,
      ⟨some 39, .len 1 (.tmp 38), some (36, false)⟩,
      ⟨some 40, .fieldAddr 4 (.tmp 3), some (36, false)⟩,
      ⟨some 41, .iload false 1 (.tmp 40), some (36, false)⟩,
      ⟨some 42, .len 1 (.tmp 41), some (36, false)⟩,
      ⟨some 43, .bin .neq .num (.tmp 39) (.tmp 42), some (36, false)⟩,
      ⟨some 44, .pick (.tmp 36) (.val (.lit (.bool true))) (.tmp 43), none⟩]) (
   .cond (.tmp 44) (
     .seq (
      .ops [⟨some 4, .val (.val (.lit (.bool false))), none⟩]) (
     .ret)) (
     .skip))) (
  .seq (
   .seq (
    .ops [⟨some 5, .val (.val (.lit (.int .i64 0))), none⟩]) (
   .block 0 (
     .loop a_bobbinref11_SameGraphb3))) (
  .seq (
   .ops [⟨some 4, .val (.val (.lit (.bool true))), none⟩]) (
  .ret))))

theorem c_bobbinref11_SameGraph : codeOf Tryz.prog { bz := [2, 3], il := [11, 13, 17, 19, 24, 26, 31, 33, 38, 41, 47, 53, 58] } 11 = some (a_bobbinref11_SameGraph, [.tmp 4], 149) := by kernel_rfl

/-- bobbin/bobbinref11.Same -/
def a_bobbinref11_Sameb1 : ACode :=
       .seq (
        .seq (
         .ops [⟨some 27, .val (.tmp 5), none⟩,
           ⟨some 28, .fieldAddr 2 (.tmp 2), none⟩,
           ⟨some 29, .iload false 1 (.tmp 28), none⟩,
           ⟨some 30, .len 1 (.tmp 29), none⟩,
           ⟨some 31, .bin .lss .num (.tmp 27) (.tmp 30), none⟩]) (
        .cond (.tmp 31) (
          .skip) (
          .exit 0))) (
       .seq (
        .block 1 (
          .seq (
           .ops [⟨some 34, .fieldAddr 2 (.tmp 2), none⟩,
             ⟨some 35, .iload false 1 (.tmp 34), none⟩,
             ⟨some 36, .val (.tmp 5), none⟩,
             ⟨some 37, .indexAddr 5 (.tmp 35) (.tmp 36), none⟩,
             ⟨some 39, .fieldAddr 2 (.tmp 3), none⟩,
             ⟨some 40, .iload false 1 (.tmp 39), none⟩,
             ⟨some 41, .val (.tmp 5), none⟩,
             ⟨some 42, .indexAddr 5 (.tmp 40) (.tmp 41), none⟩,
             ⟨some 38, .load true 5 (.tmp 37), none⟩,
             ⟨some 43, .load true 5 (.tmp 42), none⟩,
             ⟨some 44, .call (.val (.fn (.func 11) [] [])) [(.tmp 38), (.tmp 43)], none⟩,
             ⟨some 45, .un .not (.tmp 44), none⟩]) (
          .cond (.tmp 45) (
            .seq (
             .ops [⟨some 4, .val (.val (.lit (.bool false))), none⟩]) (
            .ret)) (
            .skip)))) (
       .ops [⟨some 32, .val (.tmp 5), none⟩,
         ⟨some 33, .bin .add .num (.tmp 32) (.val (.lit (.int .i64 1))), none⟩,
         ⟨some 5, .val (.tmp 33), none⟩]))

def a_bobbinref11_Same : ACode :=
  .seq (
   .ops [⟨some 2, .box true (.tmp 0), none⟩,
     ⟨some 3, .box true (.tmp 1), none⟩,
     ⟨some 4, .val (.val (.lit (.bool false))), none⟩]) (
  .seq (
   .seq (
    .ops [⟨some 6, .fieldAddr 0 (.tmp 2), none⟩,
      ⟨some 7, .iload false 1 (.tmp 6), none⟩,
      ⟨some 8, .fieldAddr 1 (.tmp 2), none⟩,
      ⟨some 9, .iload false 1 (.tmp 8), none⟩,
      ⟨some 10, .build [(.sl .nil 0 []), (.sl .nil 0 []), (.sl .nil 0 [])] [(0, 1, (.tmp 7)), (1, 1, (.tmp 9))], none⟩,
      ⟨some 11, .fieldAddr 0 (.tmp 3), none⟩,
      ⟨some 12, .iload false 1 (.tmp 11), none⟩,
      ⟨some 13, .fieldAddr 1 (.tmp 3), none⟩,
      ⟨some 14, .iload false 1 (.tmp 13), none⟩,
      ⟨some 15, .build [(.sl .nil 0 []), (.sl .nil 0 []), (.sl .nil 0 [])] [(0, 1, (.tmp 12)), (1, 1, (.tmp 14))], none⟩,
      ⟨some 16, .call (.val (.fn (.func 43) [] [])) [(.tmp 10), (.tmp 15)], none⟩,
      ⟨some 17, .un .not (.tmp 16), none⟩,
      ⟨some 18, .val (.tmp 17), none⟩,
      ⟨some 19, .fieldAddr 2 (.tmp 2), some (18, false)⟩,
      ⟨some 20, .iload false 1 (.tmp 19), some (18, false)⟩,
      ⟨some 21, .len 1 (.tmp 20), some (18, false)⟩,
      ⟨some 22, .fieldAddr 2 (.tmp 3), some (18, false)⟩,
      ⟨some 23, .iload false 1 (.tmp 22), some (18, false)⟩,
      ⟨some 24, .len 1 (.tmp 23), some (18, false)⟩,
      ⟨some 25, .bin .neq .num (.tmp 21) (.tmp 24), some (18, false)⟩,
      ⟨some 26, .pick (.tmp 18) (.val (.lit (.bool true))) (.tmp 25), none⟩]) (
   .cond (.tmp 26) (
     .seq (
      .ops [⟨some 4, .val (.val (.lit (.bool false))), none⟩]) (
     .ret)) (
     .skip))) (
  .seq (
   .seq (
    .ops [⟨some 5, .val (.val (.lit (.int .i64 0))), none⟩]) (
   .block 0 (
     .loop a_bobbinref11_Sameb1))) (
  .seq (
   .ops [⟨some 4, .val (.val (.lit (.bool true))), none⟩]) (
  .ret))))

theorem c_bobbinref11_Same : codeOf Tryz.prog { bz := [2, 3], il := [7, 9, 12, 14, 20, 23, 29, 35, 40] } 15 = some (a_bobbinref11_Same, [.tmp 4], 46) := by kernel_rfl

end Go.Proofs.YtcoepjbipbihfaaGreatDoor
