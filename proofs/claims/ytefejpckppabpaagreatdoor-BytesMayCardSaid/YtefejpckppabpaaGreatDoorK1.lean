/- The code of functions, compiled (printed by wip/tools/kp.py). -/
import Derived.Test.YtefejpckppabpaaGreatDoorProg
import Derived.Test.YtefejpckppabpaaGreatDoorM3
namespace Go.Proofs.YtefejpckppabpaaGreatDoor
set_option linter.unusedSimpArgs false
set_option linter.unusedVariables false
open Go Go.Fw
/-- bobbin/code.of -/
def a_code_of : ACode :=
  .seq (
   .ops [⟨some 1, .box true (.tmp 0), none⟩,
     ⟨some 2, .alloc [(.lit (.bool false)), (.lit (.bool false)), (.lit (.bool false)), (.lit (.bool false)), (.lit (.int .i64 0))], none⟩,
     ⟨some 3, .val (.val (.lit (.bool false))), none⟩]) (
  .seq (
   .seq (
    .ops [⟨some 4, .fieldAddr 0 (.tmp 1), none⟩,
      ⟨some 5, .iload false 1 (.tmp 4), none⟩,
      ⟨some 6, .bin .lss .num (.tmp 5) (.val (.lit (.int .u8 1))), none⟩,
      ⟨some 7, .val (.tmp 6), none⟩,
      ⟨some 8, .fieldAddr 0 (.tmp 1), some (7, false)⟩,
      ⟨some 9, .iload false 1 (.tmp 8), some (7, false)⟩,
      ⟨some 10, .conv .i64 (.tmp 9), some (7, false)⟩,
      ⟨some 11, .bin .geq .num (.tmp 10) (.val (.lit (.int .i64 14))), some (7, false)⟩,
      ⟨some 12, .pick (.tmp 7) (.val (.lit (.bool true))) (.tmp 11), none⟩]) (
   .cond (.tmp 12) (
     .seq (
      .ops [⟨some 13, .build [(.lit (.bool false)), (.lit (.bool false)), (.lit (.bool false)), (.lit (.bool false)), (.lit (.int .i64 0))] [], none⟩,
        ⟨none, .store 5 (.tmp 2) (.tmp 13), none⟩,
        ⟨some 3, .val (.val (.lit (.bool false))), none⟩]) (
     .ret)) (
     .skip))) (
  .seq (
   .ops [⟨some 14, .fieldAddr 0 (.tmp 1), none⟩,
     ⟨some 15, .iload false 1 (.tmp 14), none⟩,
     ⟨some 16, .indexP 5 14 (.glob 2) (.tmp 15), none⟩,
     ⟨some 17, .iload true 5 (.tmp 16), none⟩,
     ⟨none, .store 5 (.tmp 2) (.tmp 17), none⟩,
     ⟨some 3, .val (.val (.lit (.bool true))), none⟩]) (
  .ret)))

theorem c_code_of : codeOf Tryz.prog { bz := [1], il := [5, 9, 15, 17] } 93 = some (a_code_of, [.cell 2 5 true, .tmp 3], 18) := by kernel_rfl

/-- bobbin/code.Writes -/
def a_code_Writes : ACode :=
  .seq (
   .ops [⟨some 1, .box true (.tmp 0), none⟩,
     ⟨some 2, .val (.val (.lit (.int .i64 0))), none⟩,
     ⟨some 3, .val (.val (.lit (.bool false))), none⟩]) (
  .seq (
   .seq (
    .ops [⟨some 7, .iload true 6 (.tmp 1), none⟩,
      ⟨some 8, .call (.val (.fn (.func 93) [] [])) [(.tmp 7)], none⟩,
      ⟨some 6, .val (.tmp 8), none⟩,
      ⟨some 9, .extract (.tmp 6) 0, none⟩,
      ⟨some 10, .extract (.tmp 6) 1, none⟩,
      ⟨some 4, .alloc [(.lit (.bool false)), (.lit (.bool false)), (.lit (.bool false)), (.lit (.bool false)), (.lit (.int .i64 0))], none⟩,
      ⟨none, .store 5 (.tmp 4) (.tmp 9), none⟩,
      ⟨some 5, .val (.tmp 10), none⟩]) (
   .seq (
    .ops [⟨some 11, .val (.tmp 5), none⟩,
      ⟨some 12, .val (.tmp 11), none⟩,
      ⟨some 13, .fieldAddr 0 (.tmp 4), some (12, true)⟩,
      ⟨some 14, .load false 1 (.tmp 13), some (12, true)⟩,
      ⟨some 15, .pick (.tmp 12) (.tmp 14) (.val (.lit (.bool false))), none⟩]) (
   .cond (.tmp 15) (
     .seq (
      .ops [⟨some 16, .fieldAddr 1 (.tmp 1), none⟩,
        ⟨some 17, .iload false 1 (.tmp 16), none⟩,
        ⟨some 2, .val (.tmp 17), none⟩,
        ⟨some 3, .val (.val (.lit (.bool true))), none⟩]) (
     .ret)) (
     .skip)))) (
  .seq (
   .ops [⟨some 2, .val (.val (.lit (.int .i64 0))), none⟩,
     ⟨some 3, .val (.val (.lit (.bool false))), none⟩]) (
  .ret)))

theorem c_code_Writes : codeOf Tryz.prog { bz := [1], il := [7, 17] } 98 = some (a_code_Writes, [.tmp 2, .tmp 3], 18) := by kernel_rfl

/-- bobbin/code.SameIns -/
def a_code_SameIns : ACode :=
  .seq (
   .ops [⟨some 2, .box true (.tmp 0), none⟩,
     ⟨some 3, .box true (.tmp 1), none⟩,
     ⟨some 4, .val (.val (.lit (.bool false))), none⟩]) (
  .seq (
   .ops [⟨some 5, .fieldAddr 0 (.tmp 2), none⟩,
     ⟨some 6, .iload false 1 (.tmp 5), none⟩,
     ⟨some 7, .fieldAddr 0 (.tmp 3), none⟩,
     ⟨some 8, .iload false 1 (.tmp 7), none⟩,
     ⟨some 9, .bin .eql .num (.tmp 6) (.tmp 8), none⟩,
     ⟨some 10, .val (.tmp 9), none⟩,
     ⟨some 11, .fieldAddr 1 (.tmp 2), some (10, true)⟩,
     ⟨some 12, .iload false 1 (.tmp 11), some (10, true)⟩,
     ⟨some 13, .fieldAddr 1 (.tmp 3), some (10, true)⟩,
     ⟨some 14, .iload false 1 (.tmp 13), some (10, true)⟩,
     ⟨some 15, .bin .eql .num (.tmp 12) (.tmp 14), some (10, true)⟩,
     ⟨some 16, .pick (.tmp 10) (.tmp 15) (.val (.lit (.bool false))), none⟩,
     ⟨some 17, .val (.tmp 16), none⟩,
     ⟨some 18, .fieldAddr 2 (.tmp 2), some (17, true)⟩,
     ⟨some 19, .iload false 1 (.tmp 18), some (17, true)⟩,
     ⟨some 20, .fieldAddr 2 (.tmp 3), some (17, true)⟩,
     ⟨some 21, .iload false 1 (.tmp 20), some (17, true)⟩,
     ⟨some 22, .bin .eql .num (.tmp 19) (.tmp 21), some (17, true)⟩,
     ⟨some 23, .pick (.tmp 17) (.tmp 22) (.val (.lit (.bool false))), none⟩,
     ⟨some 24, .val (.tmp 23), none⟩,
     ⟨some 25, .fieldAddr 3 (.tmp 2), some (24, true)⟩,
     ⟨some 26, .iload false 1 (.tmp 25), some (24, true)⟩,
     ⟨some 27, .fieldAddr 3 (.tmp 3), some (24, true)⟩,
     ⟨some 28, .iload false 1 (.tmp 27), some (24, true)⟩,
     ⟨some 29, .bin .eql .num (.tmp 26) (.tmp 28), some (24, true)⟩,
     ⟨some 30, .pick (.tmp 24) (.tmp 29) (.val (.lit (.bool false))), none⟩,
     ⟨some 31, .val (.tmp 30), none⟩,
     ⟨some 32, .fieldAddr 4 (.tmp 2), some (31, true)⟩,
     ⟨some 33, .iload false 1 (.tmp 32), some (31, true)⟩,
     ⟨some 34, .fieldAddr 4 (.tmp 3), some (31, true)⟩,
     ⟨some 35, .iload false 1 (.tmp 34), some (31, true)⟩,
     ⟨some 36, .bin .eql .num (.tmp 33) (.tmp 35), some (31, true)⟩,
     ⟨some 37, .pick (.tmp 31) (.tmp 36) (.val (.lit (.bool false))), none⟩,
     ⟨some 38, .val (.tmp 37), none⟩,
     ⟨some 39, .fieldAddr 5 (.tmp 2), some (38, true)⟩,
     ⟨some 40, .iload false 1 (.tmp 39), some (38, true)⟩,
     ⟨some 41, .fieldAddr 5 (.tmp 3), some (38, true)⟩,
     ⟨some 42, .iload false 1 (.tmp 41), some (38, true)⟩,
     ⟨some 43, .call (.val (.fn (.func 120) [] [])) [(.tmp 40), (.tmp 42)], some (38, true)⟩,
     ⟨some 44, .pick (.tmp 38) (.tmp 43) (.val (.lit (.bool false))), none⟩,
     ⟨some 4, .val (.tmp 44), none⟩]) (
  .ret))

theorem c_code_SameIns : codeOf Tryz.prog { bz := [2, 3], il := [6, 8, 12, 14, 19, 21, 26, 28, 33, 35, 40, 42] } 94 = some (a_code_SameIns, [.tmp 4], 45) := by kernel_rfl

/-- slices.Equal[[]int,int] -/
def a_slices_Equal_int_intb1 : ACode :=
       .seq (
        .ops [⟨some 14, .bin .lss .num (.tmp 13) (.tmp 12), none⟩]) (
       .seq (
        .cond (.tmp 14) (
          .skip) (
          .exit 0)) (
       .seq (
        .block 1 (
          .seq (
           .ops [⟨some 15, .val (.tmp 13), none⟩,
             ⟨some 5, .val (.tmp 15), none⟩]) (
          .seq (
           .ops [⟨some 16, .val (.tmp 0), none⟩,
             ⟨some 17, .val (.tmp 5), none⟩,
             ⟨some 18, .indexAddr 1 (.tmp 16) (.tmp 17), none⟩,
             ⟨some 20, .val (.tmp 1), none⟩,
             ⟨some 21, .val (.tmp 5), none⟩,
             ⟨some 22, .indexAddr 1 (.tmp 20) (.tmp 21), none⟩,
             ⟨some 19, .load false 1 (.tmp 18), none⟩,
             ⟨some 23, .load false 1 (.tmp 22), none⟩,
             ⟨some 24, .bin .neq .num (.tmp 19) (.tmp 23), none⟩]) (
          .cond (.tmp 24) (
            .seq (
             .ops [⟨some 4, .val (.val (.lit (.bool false))), none⟩]) (
            .ret)) (
            .skip))))) (
       .ops [⟨some 25, .bin .add .num (.tmp 13) (.val (.lit (.int .i64 1))), none⟩,
         ⟨some 13, .val (.tmp 25), none⟩])))

def a_slices_Equal_int_int : ACode :=
  .seq (
   .ops [⟨some 4, .val (.val (.lit (.bool false))), none⟩]) (
  .seq (
   .seq (
    .ops [⟨some 6, .val (.tmp 0), none⟩,
      ⟨some 7, .len 1 (.tmp 6), none⟩,
      ⟨some 8, .val (.tmp 1), none⟩,
      ⟨some 9, .len 1 (.tmp 8), none⟩,
      ⟨some 10, .bin .neq .num (.tmp 7) (.tmp 9), none⟩]) (
   .cond (.tmp 10) (
     .seq (
      .ops [⟨some 4, .val (.val (.lit (.bool false))), none⟩]) (
     .ret)) (
     .skip))) (
  .seq (
   .seq (
    .ops [⟨some 11, .val (.tmp 0), none⟩,
      ⟨some 12, .len 1 (.tmp 11), none⟩,
      ⟨some 13, .val (.val (.lit (.int .i64 0))), none⟩]) (
   .block 0 (
     .loop a_slices_Equal_int_intb1))) (
  .seq (
   .ops [⟨some 4, .val (.val (.lit (.bool true))), none⟩]) (
  .ret))))

theorem c_slices_Equal_int_int : codeOf Tryz.prog {  } 120 = some (a_slices_Equal_int_int, [.tmp 4], 26) := by kernel_rfl

/-- bobbin/code.reads -/
def a_code_reads_a : ACode :=
   .seq (
    .ops [⟨some 12, .fieldAddr 1 (.tmp 3), none⟩,
      ⟨some 13, .load false 1 (.tmp 12), none⟩,
      ⟨some 14, .val (.tmp 13), none⟩,
      ⟨some 15, .fieldAddr 3 (.tmp 3), some (14, true)⟩,
      ⟨some 16, .load false 1 (.tmp 15), some (14, true)⟩,
      ⟨some 17, .val (.tmp 16), some (14, true)⟩,
      ⟨some 18, .fieldAddr 2 (.tmp 1), some (17, true)⟩,
      ⟨some 19, .iload false 1 (.tmp 18), some (17, true)⟩,
      ⟨some 20, .bin .eql .num (.tmp 19) (.val (.lit (.int .i64 (-1)))), some (17, true)⟩,
      ⟨some 21, .pick (.tmp 17) (.tmp 20) (.val (.lit (.bool false))), some (14, true)⟩,
      ⟨some 22, .un .not (.tmp 21), some (14, true)⟩,
      ⟨some 23, .pick (.tmp 14) (.tmp 22) (.val (.lit (.bool false))), none⟩]) (
   .cond (.tmp 23) (
     .ops [⟨some 24, .val (.tmp 5), none⟩,
       ⟨some 25, .fieldAddr 2 (.tmp 1), none⟩,
       ⟨some 26, .iload false 1 (.tmp 25), none⟩,
       ⟨some 27, .bslice false 1 1 [(.lit (.int .i64 0))] [(0, 1, (.tmp 26))], none⟩,
       ⟨some 28, .append false 1 8 (.tmp 24) (.tmp 27), none⟩,
       ⟨some 5, .val (.tmp 28), none⟩]) (
     .skip))

def a_code_reads_b : ACode :=
   .seq (
    .ops [⟨some 29, .fieldAddr 2 (.tmp 3), none⟩,
      ⟨some 30, .load false 1 (.tmp 29), none⟩]) (
   .cond (.tmp 30) (
     .ops [⟨some 31, .val (.tmp 5), none⟩,
       ⟨some 32, .fieldAddr 3 (.tmp 1), none⟩,
       ⟨some 33, .iload false 1 (.tmp 32), none⟩,
       ⟨some 34, .bslice false 1 1 [(.lit (.int .i64 0))] [(0, 1, (.tmp 33))], none⟩,
       ⟨some 35, .append false 1 8 (.tmp 31) (.tmp 34), none⟩,
       ⟨some 5, .val (.tmp 35), none⟩]) (
     .skip))

def a_code_reads_c : ACode :=
   .seq (
    .ops [⟨some 36, .fieldAddr 4 (.tmp 3), none⟩,
      ⟨some 37, .load false 1 (.tmp 36), none⟩,
      ⟨some 38, .bin .eql .num (.tmp 37) (.val (.lit (.int .i64 6))), none⟩]) (
   .cond (.tmp 38) (
     .ops [⟨some 39, .val (.tmp 5), none⟩,
       ⟨some 40, .fieldAddr 5 (.tmp 1), none⟩,
       ⟨some 41, .iload false 1 (.tmp 40), none⟩,
       ⟨some 42, .append false 1 8 (.tmp 39) (.tmp 41), none⟩,
       ⟨some 5, .val (.tmp 42), none⟩]) (
     .skip))

def a_code_reads : ACode :=
  .seq (
   .ops [⟨some 1, .box true (.tmp 0), none⟩,
     ⟨some 2, .val (.val (.lit .nilFunc)), none⟩]) (
  .seq (
   .ops [⟨some 7, .iload true 6 (.tmp 1), none⟩,
     ⟨some 8, .call (.val (.fn (.func 93) [] [])) [(.tmp 7)], none⟩,
     ⟨some 6, .val (.tmp 8), none⟩,
     ⟨some 9, .extract (.tmp 6) 0, none⟩,
     ⟨some 10, .extract (.tmp 6) 1, none⟩,
     ⟨some 3, .alloc [(.lit (.bool false)), (.lit (.bool false)), (.lit (.bool false)), (.lit (.bool false)), (.lit (.int .i64 0))], none⟩,
     ⟨none, .store 5 (.tmp 3) (.tmp 9), none⟩,
     ⟨some 4, .val (.tmp 10), none⟩]) (
  .seq (
   .ops [⟨some 11, .bslice false 1 0 [] [], none⟩,
     ⟨some 5, .val (.tmp 11), none⟩]) (
  .seq a_code_reads_a (
  .seq a_code_reads_b (
  .seq a_code_reads_c (
  .seq (
   .ops [⟨some 43, .val (.tmp 5), none⟩,
     ⟨some 44, .call (.val (.fn (.func 121) [] [])) [(.tmp 43)], none⟩,
     ⟨some 2, .val (.tmp 44), none⟩]) (
  .ret)))))))

theorem c_code_reads : codeOf Tryz.prog { bz := [1], il := [7, 19, 26, 33, 41] } 97 = some (a_code_reads, [.tmp 2], 45) := by kernel_rfl

/-- slices.Values[[]int,int] -/
def a_slices_Values_int_int : ACode :=
  .seq (
   .ops [⟨some 1, .box true (.tmp 0), none⟩,
     ⟨some 2, .val (.val (.lit .nilFunc)), none⟩]) (
  .seq (
   .ops [⟨some 3, .mkfn (.func 132) [] [(.tmp 1)], none⟩,
     ⟨some 2, .val (.tmp 3), none⟩]) (
  .ret))

theorem c_slices_Values_int_int : codeOf Tryz.prog { bz := [1] } 121 = some (a_slices_Values_int_int, [.tmp 2], 4) := by kernel_rfl

/-- slices.Values[[]int,int]$1 -/
def a_slices_Values_int_int_1b1 : ACode :=
      .seq (
       .ops [⟨some 8, .bin .lss .num (.tmp 7) (.tmp 6), none⟩]) (
      .seq (
       .cond (.tmp 8) (
         .skip) (
         .exit 0)) (
      .seq (
       .block 1 (
         .seq (
          .ops [⟨some 9, .indexAddr 1 (.tmp 5) (.tmp 7), none⟩,
            ⟨some 10, .load false 1 (.tmp 9), none⟩,
            ⟨some 4, .val (.tmp 10), none⟩]) (
         .seq (
          .ops [⟨some 11, .val (.tmp 0), none⟩,
            ⟨some 12, .val (.tmp 4), none⟩,
            ⟨some 13, .call (.tmp 11) [(.tmp 12)], none⟩,
            ⟨some 14, .un .not (.tmp 13), none⟩]) (
         .cond (.tmp 14) (
           .ret) (
           .skip))))) (
      .ops [⟨some 15, .bin .add .num (.tmp 7) (.val (.lit (.int .i64 1))), none⟩,
        ⟨some 7, .val (.tmp 15), none⟩])))

def a_slices_Values_int_int_1 : ACode :=
  .seq (
   .ops [⟨some 5, .load false 1 (.tmp 1), none⟩,
     ⟨some 6, .len 1 (.tmp 5), none⟩,
     ⟨some 7, .val (.val (.lit (.int .i64 0))), none⟩]) (
  .block 0 (
    .loop a_slices_Values_int_int_1b1))

theorem c_slices_Values_int_int_1 : codeOf Tryz.prog {  } 132 = some (a_slices_Values_int_int_1, [], 16) := by kernel_rfl

/-- bobbin/code.bare -/
def a_code_bare_r : ACode :=
   .seq (
    .ops [⟨some 6, .fieldAddr 0 (.tmp 2), none⟩,
      ⟨some 7, .iload false 1 (.tmp 6), none⟩]) (
   .cond (.tmp 7) (
     .ops [⟨some 8, .fieldAddr 1 (.tmp 3), none⟩,
       ⟨none, .store 1 (.tmp 8) (.val (.lit (.int .i64 0))), none⟩]) (
     .skip))

def a_code_bare_a : ACode :=
   .seq (
    .ops [⟨some 9, .fieldAddr 1 (.tmp 2), none⟩,
      ⟨some 10, .iload false 1 (.tmp 9), none⟩]) (
   .cond (.tmp 10) (
     .ops [⟨some 11, .fieldAddr 2 (.tmp 3), none⟩,
       ⟨none, .store 1 (.tmp 11) (.val (.lit (.int .i64 0))), none⟩]) (
     .skip))

def a_code_bare_b : ACode :=
   .seq (
    .ops [⟨some 12, .fieldAddr 2 (.tmp 2), none⟩,
      ⟨some 13, .iload false 1 (.tmp 12), none⟩]) (
   .cond (.tmp 13) (
     .ops [⟨some 14, .fieldAddr 3 (.tmp 3), none⟩,
       ⟨none, .store 1 (.tmp 14) (.val (.lit (.int .i64 0))), none⟩]) (
     .skip))

def a_code_bare_n : ACode :=
   .seq (
    .ops [⟨some 15, .fieldAddr 4 (.tmp 2), none⟩,
      ⟨some 16, .iload false 1 (.tmp 15), none⟩,
      ⟨some 17, .bin .neq .num (.tmp 16) (.val (.lit (.int .i64 0))), none⟩]) (
   .cond (.tmp 17) (
     .ops [⟨some 18, .fieldAddr 4 (.tmp 3), none⟩,
       ⟨none, .store 1 (.tmp 18) (.val (.lit (.int .i64 0))), none⟩]) (
     .skip))

def a_code_bare_c : ACode :=
   .seq (
    .ops [⟨some 19, .fieldAddr 4 (.tmp 2), none⟩,
      ⟨some 20, .iload false 1 (.tmp 19), none⟩,
      ⟨some 21, .bin .eql .num (.tmp 20) (.val (.lit (.int .i64 6))), none⟩]) (
   .cond (.tmp 21) (
     .ops [⟨some 22, .fieldAddr 5 (.tmp 3), none⟩,
       ⟨none, .store 1 (.tmp 22) (.val (.sl .nil 0 [])), none⟩]) (
     .skip))

def a_code_bare : ACode :=
  .seq (
   .ops [⟨some 2, .box true (.tmp 0), none⟩,
     ⟨some 3, .box false (.tmp 1), none⟩,
     ⟨some 4, .alloc [(.lit (.int .u8 0)), (.lit (.int .i64 0)), (.lit (.int .i64 0)), (.lit (.int .i64 0)), (.lit (.int .i64 0)), (.sl .nil 0 [])], none⟩]) (
  .seq (
   .ops [⟨some 5, .fieldAddr 0 (.tmp 3), none⟩,
     ⟨none, .store 1 (.tmp 5) (.val (.lit (.int .u8 0))), none⟩]) (
  .seq a_code_bare_r (
  .seq a_code_bare_a (
  .seq a_code_bare_b (
  .seq a_code_bare_n (
  .seq a_code_bare_c (
  .seq (
   .ops [⟨some 23, .load true 6 (.tmp 3), none⟩,
     ⟨none, .store 6 (.tmp 4) (.tmp 23), none⟩]) (
  .ret))))))))

theorem c_code_bare : codeOf Tryz.prog { bz := [2], il := [7, 10, 13, 16, 20] } 95 = some (a_code_bare, [.cell 4 6 true], 24) := by kernel_rfl

/-- bobbin/code.number -/
def a_code_number : ACode :=
  .seq (
   .ops [⟨some 4, .box true (.tmp 0), none⟩,
     ⟨some 5, .box true (.tmp 1), none⟩,
     ⟨some 6, .box true (.tmp 2), none⟩,
     ⟨some 7, .box true (.tmp 3), none⟩,
     ⟨some 8, .val (.val (.lit (.bool false))), none⟩]) (
  .seq (
   .ops [⟨some 10, .fieldAddr 4 (.tmp 7), none⟩,
     ⟨some 11, .iload false 1 (.tmp 10), none⟩,
     ⟨some 9, .val (.tmp 11), none⟩]) (
  .seq (
   .seq (
    .ops [⟨some 12, .fieldAddr 4 (.tmp 6), none⟩,
      ⟨some 13, .iload false 1 (.tmp 12), none⟩]) (
   .block 0 (
     .seq (
      .ops [⟨some 15, .bin .eql .num (.tmp 13) (.val (.lit (.int .i64 2))), none⟩,
        ⟨some 14, .val (.tmp 15), none⟩]) (
     .cond (.tmp 14) (
       .seq (
        .ops [⟨some 16, .val (.tmp 9), none⟩,
          ⟨some 17, .bin .eql .num (.tmp 16) (.val (.lit (.int .i64 5))), none⟩,
          ⟨some 18, .val (.tmp 17), none⟩,
          ⟨some 19, .val (.tmp 9), some (18, false)⟩,
          ⟨some 20, .bin .eql .num (.tmp 19) (.val (.lit (.int .i64 6))), some (18, false)⟩,
          ⟨some 21, .pick (.tmp 18) (.val (.lit (.bool true))) (.tmp 20), none⟩,
          ⟨some 8, .val (.tmp 21), none⟩]) (
       .ret)) (
       .seq (
        .ops [⟨some 23, .bin .eql .num (.tmp 13) (.val (.lit (.int .i64 3))), none⟩,
          ⟨some 22, .val (.tmp 23), none⟩]) (
       .cond (.tmp 22) (
         .seq (
          .ops [⟨some 24, .val (.tmp 9), none⟩,
            ⟨some 25, .bin .geq .num (.tmp 24) (.val (.lit (.int .i64 7))), none⟩,
            ⟨some 26, .val (.tmp 25), none⟩,
            ⟨some 27, .val (.tmp 9), some (26, true)⟩,
            ⟨some 28, .bin .leq .num (.tmp 27) (.val (.lit (.int .i64 17))), some (26, true)⟩,
            ⟨some 29, .pick (.tmp 26) (.tmp 28) (.val (.lit (.bool false))), none⟩,
            ⟨some 8, .val (.tmp 29), none⟩]) (
         .ret)) (
         .seq (
          .ops [⟨some 31, .bin .eql .num (.tmp 13) (.val (.lit (.int .i64 4))), none⟩,
            ⟨some 30, .val (.tmp 31), none⟩]) (
         .cond (.tmp 30) (
           .seq (
            .ops [⟨some 32, .val (.tmp 9), none⟩,
              ⟨some 33, .bin .geq .num (.tmp 32) (.val (.lit (.int .i64 0))), none⟩,
              ⟨some 34, .val (.tmp 33), none⟩,
              ⟨some 35, .val (.tmp 9), some (34, true)⟩,
              ⟨some 36, .fieldAddr 0 (.tmp 4), some (34, true)⟩,
              ⟨some 37, .iload false 1 (.tmp 36), some (34, true)⟩,
              ⟨some 38, .len 1 (.tmp 37), some (34, true)⟩,
              ⟨some 39, .bin .lss .num (.tmp 35) (.tmp 38), some (34, true)⟩,
              ⟨some 40, .pick (.tmp 34) (.tmp 39) (.val (.lit (.bool false))), none⟩,
              ⟨some 8, .val (.tmp 40), none⟩]) (
           .ret)) (
           .seq (
            .ops [⟨some 42, .bin .eql .num (.tmp 13) (.val (.lit (.int .i64 5))), none⟩,
              ⟨some 41, .val (.tmp 42), none⟩]) (
           .cond (.tmp 41) (
             .seq (
              .ops [⟨some 43, .val (.tmp 9), none⟩,
                ⟨some 44, .bin .geq .num (.tmp 43) (.val (.lit (.int .i64 0))), none⟩,
                ⟨some 45, .val (.tmp 44), none⟩,
                ⟨some 46, .val (.tmp 9), some (45, true)⟩,
                ⟨some 47, .fieldAddr 1 (.tmp 4), some (45, true)⟩,
                ⟨some 48, .iload false 1 (.tmp 47), some (45, true)⟩,
                ⟨some 49, .len 1 (.tmp 48), some (45, true)⟩,
                ⟨some 50, .bin .lss .num (.tmp 46) (.tmp 49), some (45, true)⟩,
                ⟨some 51, .pick (.tmp 45) (.tmp 50) (.val (.lit (.bool false))), none⟩,
                ⟨some 8, .val (.tmp 51), none⟩]) (
             .ret)) (
             .seq (
              .ops [⟨some 53, .bin .eql .num (.tmp 13) (.val (.lit (.int .i64 7))), none⟩,
                ⟨some 52, .val (.tmp 53), none⟩]) (
             .cond (.tmp 52) (
               .seq (
                .ops [⟨some 54, .val (.tmp 9), none⟩,
                  ⟨some 55, .bin .geq .num (.tmp 54) (.val (.lit (.int .i64 0))), none⟩,
                  ⟨some 56, .val (.tmp 55), none⟩,
                  ⟨some 57, .val (.tmp 9), some (56, true)⟩,
                  ⟨some 58, .fieldAddr 4 (.tmp 5), some (56, true)⟩,
                  ⟨some 59, .iload false 1 (.tmp 58), some (56, true)⟩,
                  ⟨some 60, .len 1 (.tmp 59), some (56, true)⟩,
                  ⟨some 61, .bin .lss .num (.tmp 57) (.tmp 60), some (56, true)⟩,
                  ⟨some 62, .pick (.tmp 56) (.tmp 61) (.val (.lit (.bool false))), none⟩,
                  ⟨some 8, .val (.tmp 62), none⟩]) (
               .ret)) (
               .seq (
                .ops [⟨some 64, .bin .eql .num (.tmp 13) (.val (.lit (.int .i64 6))), none⟩,
                  ⟨some 63, .val (.tmp 64), none⟩]) (
               .cond (.tmp 63) (
                 .seq (
                  .ops [⟨some 65, .val (.tmp 9), none⟩,
                    ⟨some 66, .bin .geq .num (.tmp 65) (.val (.lit (.int .i64 0))), none⟩,
                    ⟨some 67, .val (.tmp 66), none⟩,
                    ⟨some 68, .val (.tmp 9), some (67, true)⟩,
                    ⟨some 69, .fieldAddr 2 (.tmp 4), some (67, true)⟩,
                    ⟨some 70, .iload false 1 (.tmp 69), some (67, true)⟩,
                    ⟨some 71, .len 1 (.tmp 70), some (67, true)⟩,
                    ⟨some 72, .bin .lss .num (.tmp 68) (.tmp 71), some (67, true)⟩,
                    ⟨some 73, .pick (.tmp 67) (.tmp 72) (.val (.lit (.bool false))), none⟩,
                    ⟨some 74, .val (.tmp 73), none⟩,
                    ⟨some 75, .fieldAddr 2 (.tmp 4), some (74, true)⟩,
                    ⟨some 76, .iload false 1 (.tmp 75), some (74, true)⟩,
                    ⟨some 77, .val (.tmp 9), some (74, true)⟩,
                    ⟨some 78, .indexAddr 5 (.tmp 76) (.tmp 77), some (74, true)⟩,
                    ⟨some 79, .fieldAddr 1 (.tmp 78), some (74, true)⟩,
                    ⟨some 80, .load false 1 (.tmp 79), some (74, true)⟩,
                    ⟨some 81, .un .not (.tmp 80), some (74, true)⟩,
                    ⟨some 82, .pick (.tmp 74) (.tmp 81) (.val (.lit (.bool false))), none⟩,
                    ⟨some 83, .val (.tmp 82), none⟩,
                    ⟨some 84, .fieldAddr 5 (.tmp 7), some (83, true)⟩,
                    ⟨some 85, .iload false 1 (.tmp 84), some (83, true)⟩,
                    ⟨some 86, .len 1 (.tmp 85), some (83, true)⟩,
                    ⟨some 87, .fieldAddr 2 (.tmp 4), some (83, true)⟩,
                    ⟨some 88, .iload false 1 (.tmp 87), some (83, true)⟩,
                    ⟨some 89, .val (.tmp 9), some (83, true)⟩,
                    ⟨some 90, .indexAddr 5 (.tmp 88) (.tmp 89), some (83, true)⟩,
                    ⟨some 91, .fieldAddr 2 (.tmp 90), some (83, true)⟩,
                    ⟨some 92, .load false 1 (.tmp 91), some (83, true)⟩,
                    ⟨some 93, .bin .eql .num (.tmp 86) (.tmp 92), some (83, true)⟩,
                    ⟨some 94, .pick (.tmp 83) (.tmp 93) (.val (.lit (.bool false))), none⟩,
                    ⟨some 8, .val (.tmp 94), none⟩]) (
                 .ret)) (
                 .skip))))))))))))))) (
  .seq (
   .ops [⟨some 8, .val (.val (.lit (.bool true))), none⟩]) (
  .ret))))

theorem c_code_number : codeOf Tryz.prog { bz := [4, 5, 6, 7], il := [11, 13, 37, 48, 59, 70, 76, 85, 88] } 96 = some (a_code_number, [.tmp 8], 95) := by kernel_rfl

/-- bobbin/code.mayIns -/
def a_code_mayIns_a : ACode :=
   .seq (
    .ops [⟨some 17, .val (.tmp 8), none⟩,
      ⟨some 18, .un .not (.tmp 17), none⟩,
      ⟨some 19, .val (.tmp 18), none⟩,
      ⟨some 20, .load true 5 (.tmp 7), some (19, false)⟩,
      ⟨some 21, .iload true 6 (.tmp 5), some (19, false)⟩,
      ⟨some 22, .call (.val (.fn (.func 95) [] [])) [(.tmp 20), (.tmp 21)], some (19, false)⟩,
      ⟨some 23, .build [(.lit (.int .u8 0)), (.lit (.int .i64 0)), (.lit (.int .i64 0)), (.lit (.int .i64 0)), (.lit (.int .i64 0)), (.sl .nil 0 [])] [], some (19, false)⟩,
      ⟨some 24, .call (.val (.fn (.func 94) [] [])) [(.tmp 22), (.tmp 23)], some (19, false)⟩,
      ⟨some 25, .un .not (.tmp 24), some (19, false)⟩,
      ⟨some 26, .pick (.tmp 19) (.val (.lit (.bool true))) (.tmp 25), none⟩,
      ⟨some 27, .val (.tmp 26), none⟩,
      ⟨some 28, .iload true 3 (.tmp 3), some (27, false)⟩,
      ⟨some 29, .iload true 5 (.tmp 4), some (27, false)⟩,
      ⟨some 30, .load true 5 (.tmp 7), some (27, false)⟩,
      ⟨some 31, .iload true 6 (.tmp 5), some (27, false)⟩,
      ⟨some 32, .call (.val (.fn (.func 96) [] [])) [(.tmp 28), (.tmp 29), (.tmp 30), (.tmp 31)], some (27, false)⟩,
      ⟨some 33, .un .not (.tmp 32), some (27, false)⟩,
      ⟨some 34, .pick (.tmp 27) (.val (.lit (.bool true))) (.tmp 33), none⟩]) (
   .cond (.tmp 34) (
     .seq (
      .ops [⟨none, .store 1 (.tmp 6) (.val (.lit (.bool false))), none⟩]) (
     .ret)) (
     .skip))

def a_code_mayIns_b : ACode :=
   .seq (
    .ops [⟨some 35, .iload true 6 (.tmp 5), none⟩,
      ⟨some 36, .call (.val (.fn (.func 97) [] [])) [(.tmp 35)], none⟩]) (
   .block 0 (
     .range (.tmp 36) [37] (
       .ops [⟨some 9, .val (.tmp 37), none⟩]) (
       .block 1 (
         .seq (
          .ops [⟨some 38, .val (.tmp 9), none⟩,
            ⟨some 39, .bin .lss .num (.tmp 38) (.val (.lit (.int .i64 0))), none⟩,
            ⟨some 40, .val (.tmp 39), none⟩,
            ⟨some 41, .val (.tmp 9), some (40, false)⟩,
            ⟨some 42, .fieldAddr 3 (.tmp 4), some (40, false)⟩,
            ⟨some 43, .iload false 1 (.tmp 42), some (40, false)⟩,
            ⟨some 44, .bin .geq .num (.tmp 41) (.tmp 43), some (40, false)⟩,
            ⟨some 45, .pick (.tmp 40) (.val (.lit (.bool true))) (.tmp 44), none⟩]) (
         .cond (.tmp 45) (
           .seq (
            .ops [⟨none, .store 1 (.tmp 6) (.val (.lit (.bool false))), none⟩]) (
           .ret)) (
           .skip))))))

def a_code_mayIns : ACode :=
  .seq (
   .ops [⟨some 3, .box true (.tmp 0), none⟩,
     ⟨some 4, .box true (.tmp 1), none⟩,
     ⟨some 5, .box true (.tmp 2), none⟩,
     ⟨some 6, .alloc [(.lit (.bool false))], none⟩]) (
  .seq (
   .ops [⟨some 13, .iload true 6 (.tmp 5), none⟩,
     ⟨some 14, .call (.val (.fn (.func 93) [] [])) [(.tmp 13)], none⟩,
     ⟨some 12, .val (.tmp 14), none⟩,
     ⟨some 15, .extract (.tmp 12) 0, none⟩,
     ⟨some 16, .extract (.tmp 12) 1, none⟩,
     ⟨some 7, .alloc [(.lit (.bool false)), (.lit (.bool false)), (.lit (.bool false)), (.lit (.bool false)), (.lit (.int .i64 0))], none⟩,
     ⟨none, .store 5 (.tmp 7) (.tmp 15), none⟩,
     ⟨some 8, .val (.tmp 16), none⟩]) (
  .seq a_code_mayIns_a (
  .seq a_code_mayIns_b (
  .seq (
   .ops [⟨some 47, .iload true 6 (.tmp 5), none⟩,
     ⟨some 48, .call (.val (.fn (.func 98) [] [])) [(.tmp 47)], none⟩,
     ⟨some 46, .val (.tmp 48), none⟩,
     ⟨some 49, .extract (.tmp 46) 0, none⟩,
     ⟨some 50, .extract (.tmp 46) 1, none⟩,
     ⟨some 10, .val (.tmp 49), none⟩,
     ⟨some 11, .val (.tmp 50), none⟩]) (
  .seq (
   .ops [⟨some 51, .val (.tmp 11), none⟩,
     ⟨some 52, .un .not (.tmp 51), none⟩,
     ⟨some 53, .val (.tmp 52), none⟩,
     ⟨some 54, .val (.tmp 10), some (53, false)⟩,
     ⟨some 55, .bin .geq .num (.tmp 54) (.val (.lit (.int .i64 0))), some (53, false)⟩,
     ⟨some 56, .val (.tmp 55), some (53, false)⟩,
     ⟨some 57, .val (.tmp 10), some (56, true)⟩,
     ⟨some 58, .fieldAddr 3 (.tmp 4), some (56, true)⟩,
     ⟨some 59, .iload false 1 (.tmp 58), some (56, true)⟩,
     ⟨some 60, .bin .lss .num (.tmp 57) (.tmp 59), some (56, true)⟩,
     ⟨some 61, .pick (.tmp 56) (.tmp 60) (.val (.lit (.bool false))), some (53, false)⟩,
     ⟨some 62, .pick (.tmp 53) (.val (.lit (.bool true))) (.tmp 61), none⟩,
     ⟨none, .store 1 (.tmp 6) (.tmp 62), none⟩]) (
  .ret))))))

theorem c_code_mayIns : codeOf Tryz.prog { bz := [3, 4, 5], il := [13, 21, 28, 29, 31, 35, 43, 47, 59] } 79 = some (a_code_mayIns, [.cell 6 1 false], 63) := by kernel_rfl

end Go.Proofs.YtefejpckppabpaaGreatDoor
