/- The code of functions, compiled (printed by wip/tools/kp.py). -/
import Derived.Test.YtefejpckppabpaaGreatDoorProg
import Derived.Test.YtefejpckppabpaaGreatDoorM3
namespace Go.Proofs.YtefejpckppabpaaGreatDoor
set_option linter.unusedSimpArgs false
set_option linter.unusedVariables false
open Go Go.Fw
/-- bobbin/tree.Name -/
def a_tree_Name : ACode :=
  .seq (
   .ops [⟨some 2, .val (.val (.lit (.bool false))), none⟩]) (
  .seq (
   .seq (
    .ops [⟨some 3, .val (.tmp 0), none⟩,
      ⟨some 4, .bin .eql .num (.tmp 3) (.val (.lit (.string ⟨#[]⟩))), none⟩,
      ⟨some 5, .val (.tmp 4), none⟩,
      ⟨some 6, .val (.tmp 0), some (5, false)⟩,
      ⟨some 7, .len 0 (.tmp 6), some (5, false)⟩,
      ⟨some 8, .bin .gtr .num (.tmp 7) (.val (.lit (.int .i64 32))), some (5, false)⟩,
      ⟨some 9, .pick (.tmp 5) (.val (.lit (.bool true))) (.tmp 8), none⟩,
      ⟨some 10, .val (.tmp 9), none⟩,
      ⟨some 11, .sliceA 1 15 (.glob 1) none none, some (10, false)⟩,
      ⟨some 12, .val (.tmp 0), some (10, false)⟩,
      ⟨some 13, .call (.val (.fn (.func 90) [] [])) [(.tmp 11), (.tmp 12)], some (10, false)⟩,
      ⟨some 14, .pick (.tmp 10) (.val (.lit (.bool true))) (.tmp 13), none⟩,
      ⟨some 15, .val (.tmp 14), none⟩,
      ⟨some 16, .val (.tmp 0), some (15, false)⟩,
      ⟨some 17, .indexStr (.tmp 16) (.val (.lit (.int .i64 0))), some (15, false)⟩,
      ⟨some 18, .bin .geq .num (.tmp 17) (.val (.lit (.int .u8 48))), some (15, false)⟩,
      ⟨some 19, .val (.tmp 18), some (15, false)⟩,
      ⟨some 20, .val (.tmp 0), some (19, true)⟩,
      ⟨some 21, .indexStr (.tmp 20) (.val (.lit (.int .i64 0))), some (19, true)⟩,
      ⟨some 22, .bin .leq .num (.tmp 21) (.val (.lit (.int .u8 57))), some (19, true)⟩,
      ⟨some 23, .pick (.tmp 19) (.tmp 22) (.val (.lit (.bool false))), some (15, false)⟩,
      ⟨some 24, .pick (.tmp 15) (.val (.lit (.bool true))) (.tmp 23), none⟩]) (
   .cond (.tmp 24) (
     .seq (
      .ops [⟨some 2, .val (.val (.lit (.bool false))), none⟩]) (
     .ret)) (
     .skip))) (
  .seq (
   .ops [⟨some 25, .val (.tmp 0), none⟩,
     ⟨some 26, .call (.val (.fn (.func 91) [] [])) [(.tmp 25), (.val (.lit (.string ⟨#[97, 98, 99, 100, 101, 102, 103, 104, 105, 106, 107, 108, 109, 110, 111, 112, 113, 114, 115, 116, 117, 118, 119, 120, 121, 122, 65, 66, 67, 68, 69, 70, 71, 72, 73, 74, 75, 76, 77, 78, 79, 80, 81, 82, 83, 84, 85, 86, 87, 88, 89, 90, 95, 48, 49, 50, 51, 52, 53, 54, 55, 56, 57]⟩)))], none⟩,
     ⟨some 27, .bin .eql .num (.tmp 26) (.val (.lit (.string ⟨#[]⟩))), none⟩,
     ⟨some 2, .val (.tmp 27), none⟩]) (
  .ret)))

theorem c_tree_Name : codeOf Tryz.prog {  } 74 = some (a_tree_Name, [.tmp 2], 28) := by kernel_rfl

/-- slices.Contains[[]string,string] -/
def a_slices_Contains_string_string : ACode :=
  .seq (
   .ops [⟨some 4, .val (.val (.lit (.bool false))), none⟩]) (
  .seq (
   .ops [⟨some 5, .val (.tmp 0), none⟩,
     ⟨some 6, .val (.tmp 1), none⟩,
     ⟨some 7, .call (.val (.fn (.func 112) [] [])) [(.tmp 5), (.tmp 6)], none⟩,
     ⟨some 8, .bin .geq .num (.tmp 7) (.val (.lit (.int .i64 0))), none⟩,
     ⟨some 4, .val (.tmp 8), none⟩]) (
  .ret))

theorem c_slices_Contains_string_string : codeOf Tryz.prog {  } 90 = some (a_slices_Contains_string_string, [.tmp 4], 9) := by kernel_rfl

/-- slices.Index[[]string,string] -/
def a_slices_Index_string_stringb1 : ACode :=
       .seq (
        .ops [⟨some 9, .bin .lss .num (.tmp 8) (.tmp 7), none⟩]) (
       .seq (
        .cond (.tmp 9) (
          .skip) (
          .exit 0)) (
       .seq (
        .block 1 (
          .seq (
           .ops [⟨some 10, .val (.tmp 8), none⟩,
             ⟨some 5, .val (.tmp 10), none⟩]) (
          .seq (
           .ops [⟨some 11, .val (.tmp 1), none⟩,
             ⟨some 12, .val (.tmp 0), none⟩,
             ⟨some 13, .val (.tmp 5), none⟩,
             ⟨some 14, .indexAddr 1 (.tmp 12) (.tmp 13), none⟩,
             ⟨some 15, .load false 1 (.tmp 14), none⟩,
             ⟨some 16, .bin .eql .num (.tmp 11) (.tmp 15), none⟩]) (
          .cond (.tmp 16) (
            .seq (
             .ops [⟨some 17, .val (.tmp 5), none⟩,
               ⟨some 4, .val (.tmp 17), none⟩]) (
            .ret)) (
            .skip))))) (
       .ops [⟨some 18, .bin .add .num (.tmp 8) (.val (.lit (.int .i64 1))), none⟩,
         ⟨some 8, .val (.tmp 18), none⟩])))

def a_slices_Index_string_string : ACode :=
  .seq (
   .ops [⟨some 4, .val (.val (.lit (.int .i64 0))), none⟩]) (
  .seq (
   .seq (
    .ops [⟨some 6, .val (.tmp 0), none⟩,
      ⟨some 7, .len 1 (.tmp 6), none⟩,
      ⟨some 8, .val (.val (.lit (.int .i64 0))), none⟩]) (
   .block 0 (
     .loop a_slices_Index_string_stringb1))) (
  .seq (
   .ops [⟨some 4, .val (.val (.lit (.int .i64 (-1)))), none⟩]) (
  .ret)))

theorem c_slices_Index_string_string : codeOf Tryz.prog {  } 112 = some (a_slices_Index_string_string, [.tmp 4], 19) := by kernel_rfl

/-- bobbin/bobbinref02.Name -/
def a_bobbinref02_Nameb1 : ACode :=
       .seq (
        .seq (
         .ops [⟨some 17, .val (.tmp 3), none⟩,
           ⟨some 18, .val (.tmp 0), none⟩,
           ⟨some 19, .len 0 (.tmp 18), none⟩,
           ⟨some 20, .bin .lss .num (.tmp 17) (.tmp 19), none⟩]) (
        .cond (.tmp 20) (
          .skip) (
          .exit 0))) (
       .seq (
        .block 1 (
          .seq (
           .ops [⟨some 23, .val (.tmp 0), none⟩,
             ⟨some 24, .val (.tmp 3), none⟩,
             ⟨some 25, .indexStr (.tmp 23) (.tmp 24), none⟩,
             ⟨some 4, .val (.tmp 25), none⟩]) (
          .seq (
           .ops [⟨some 26, .val (.tmp 4), none⟩,
             ⟨some 27, .bin .geq .num (.tmp 26) (.val (.lit (.int .u8 97))), none⟩,
             ⟨some 28, .val (.tmp 27), none⟩,
             ⟨some 29, .val (.tmp 4), some (28, true)⟩,
             ⟨some 30, .bin .leq .num (.tmp 29) (.val (.lit (.int .u8 122))), some (28, true)⟩,
             ⟨some 31, .pick (.tmp 28) (.tmp 30) (.val (.lit (.bool false))), none⟩,
             ⟨some 32, .val (.tmp 31), none⟩,
             ⟨some 33, .val (.tmp 4), some (32, false)⟩,
             ⟨some 34, .bin .geq .num (.tmp 33) (.val (.lit (.int .u8 65))), some (32, false)⟩,
             ⟨some 35, .val (.tmp 34), some (32, false)⟩,
             ⟨some 36, .val (.tmp 4), some (35, true)⟩,
             ⟨some 37, .bin .leq .num (.tmp 36) (.val (.lit (.int .u8 90))), some (35, true)⟩,
             ⟨some 38, .pick (.tmp 35) (.tmp 37) (.val (.lit (.bool false))), some (32, false)⟩,
             ⟨some 39, .pick (.tmp 32) (.val (.lit (.bool true))) (.tmp 38), none⟩,
             ⟨some 40, .val (.tmp 39), none⟩,
             ⟨some 41, .val (.tmp 4), some (40, false)⟩,
             ⟨some 42, .bin .eql .num (.tmp 41) (.val (.lit (.int .u8 95))), some (40, false)⟩,
             ⟨some 43, .pick (.tmp 40) (.val (.lit (.bool true))) (.tmp 42), none⟩,
             ⟨some 5, .val (.tmp 43), none⟩]) (
          .seq (
           .ops [⟨some 44, .val (.tmp 5), none⟩,
             ⟨some 45, .un .not (.tmp 44), none⟩,
             ⟨some 46, .val (.tmp 45), none⟩,
             ⟨some 47, .val (.tmp 3), some (46, true)⟩,
             ⟨some 48, .bin .eql .num (.tmp 47) (.val (.lit (.int .i64 0))), some (46, true)⟩,
             ⟨some 49, .val (.tmp 48), some (46, true)⟩,
             ⟨some 50, .val (.tmp 4), some (49, false)⟩,
             ⟨some 51, .bin .lss .num (.tmp 50) (.val (.lit (.int .u8 48))), some (49, false)⟩,
             ⟨some 52, .pick (.tmp 49) (.val (.lit (.bool true))) (.tmp 51), some (46, true)⟩,
             ⟨some 53, .val (.tmp 52), some (46, true)⟩,
             ⟨some 54, .val (.tmp 4), some (53, false)⟩,
             ⟨some 55, .bin .gtr .num (.tmp 54) (.val (.lit (.int .u8 57))), some (53, false)⟩,
             ⟨some 56, .pick (.tmp 53) (.val (.lit (.bool true))) (.tmp 55), some (46, true)⟩,
             ⟨some 57, .pick (.tmp 46) (.tmp 56) (.val (.lit (.bool false))), none⟩]) (
          .cond (.tmp 57) (
            .seq (
             .ops [⟨some 2, .val (.val (.lit (.bool false))), none⟩]) (
            .ret)) (
            .skip)))))) (
       .ops [⟨some 21, .val (.tmp 3), none⟩,
         ⟨some 22, .bin .add .num (.tmp 21) (.val (.lit (.int .i64 1))), none⟩,
         ⟨some 3, .val (.tmp 22), none⟩]))

def a_bobbinref02_Name : ACode :=
  .seq (
   .ops [⟨some 2, .val (.val (.lit (.bool false))), none⟩]) (
  .seq (
   .seq (
    .ops [⟨some 6, .val (.tmp 0), none⟩,
      ⟨some 7, .bin .eql .num (.tmp 6) (.val (.lit (.string ⟨#[]⟩))), none⟩,
      ⟨some 8, .val (.tmp 7), none⟩,
      ⟨some 9, .val (.tmp 0), some (8, false)⟩,
      ⟨some 10, .len 0 (.tmp 9), some (8, false)⟩,
      ⟨some 11, .bin .gtr .num (.tmp 10) (.val (.lit (.int .i64 32))), some (8, false)⟩,
      ⟨some 12, .pick (.tmp 8) (.val (.lit (.bool true))) (.tmp 11), none⟩,
      ⟨some 13, .val (.tmp 12), none⟩,
      ⟨some 14, .val (.tmp 0), some (13, false)⟩,
      ⟨some 15, .call (.val (.fn (.func 85) [] [])) [(.tmp 14)], some (13, false)⟩,
      ⟨some 16, .pick (.tmp 13) (.val (.lit (.bool true))) (.tmp 15), none⟩]) (
   .cond (.tmp 16) (
     .seq (
      .ops [⟨some 2, .val (.val (.lit (.bool false))), none⟩]) (
     .ret)) (
     .skip))) (
  .seq (
   .seq (
    .ops [⟨some 3, .val (.val (.lit (.int .i64 0))), none⟩]) (
   .block 0 (
     .loop a_bobbinref02_Nameb1))) (
  .seq (
   .ops [⟨some 2, .val (.val (.lit (.bool true))), none⟩]) (
  .ret))))

theorem c_bobbinref02_Name : codeOf Tryz.prog {  } 64 = some (a_bobbinref02_Name, [.tmp 2], 58) := by kernel_rfl

/-- bobbin/bobbinref02.Reserved -/
def a_bobbinref02_Reservedb1 : ACode :=
       .seq (
        .ops [⟨some 8, .bin .lss .num (.tmp 7) (.tmp 6), none⟩]) (
       .seq (
        .cond (.tmp 8) (
          .skip) (
          .exit 0)) (
       .seq (
        .block 1 (
          .seq (
           .ops [⟨some 9, .indexAddr 1 (.tmp 5) (.tmp 7), none⟩,
             ⟨some 10, .load false 1 (.tmp 9), none⟩,
             ⟨some 4, .val (.tmp 10), none⟩]) (
          .seq (
           .ops [⟨some 11, .val (.tmp 0), none⟩,
             ⟨some 12, .val (.tmp 4), none⟩,
             ⟨some 13, .bin .eql .num (.tmp 11) (.tmp 12), none⟩]) (
          .cond (.tmp 13) (
            .seq (
             .ops [⟨some 2, .val (.val (.lit (.bool true))), none⟩]) (
            .ret)) (
            .skip))))) (
       .ops [⟨some 14, .bin .add .num (.tmp 7) (.val (.lit (.int .i64 1))), none⟩,
         ⟨some 7, .val (.tmp 14), none⟩])))

def a_bobbinref02_Reserved : ACode :=
  .seq (
   .ops [⟨some 2, .val (.val (.lit (.bool false))), none⟩]) (
  .seq (
   .seq (
    .ops [⟨some 5, .bslice false 1 15 [(.lit (.string ⟨#[]⟩)), (.lit (.string ⟨#[]⟩)), (.lit (.string ⟨#[]⟩)), (.lit (.string ⟨#[]⟩)), (.lit (.string ⟨#[]⟩)), (.lit (.string ⟨#[]⟩)), (.lit (.string ⟨#[]⟩)), (.lit (.string ⟨#[]⟩)), (.lit (.string ⟨#[]⟩)), (.lit (.string ⟨#[]⟩)), (.lit (.string ⟨#[]⟩)), (.lit (.string ⟨#[]⟩)), (.lit (.string ⟨#[]⟩)), (.lit (.string ⟨#[]⟩)), (.lit (.string ⟨#[]⟩))] [(0, 1, (.val (.lit (.string ⟨#[103, 108, 111, 98, 97, 108]⟩)))), (1, 1, (.val (.lit (.string ⟨#[97, 114, 114, 97, 121]⟩)))), (2, 1, (.val (.lit (.string ⟨#[108, 111, 99, 107]⟩)))), (3, 1, (.val (.lit (.string ⟨#[102, 117, 110, 99]⟩)))), (4, 1, (.val (.lit (.string ⟨#[116, 104, 114, 101, 97, 100]⟩)))), (5, 1, (.val (.lit (.string ⟨#[118, 97, 114]⟩)))), (6, 1, (.val (.lit (.string ⟨#[105, 102]⟩)))), (7, 1, (.val (.lit (.string ⟨#[101, 108, 115, 101]⟩)))), (8, 1, (.val (.lit (.string ⟨#[119, 104, 105, 108, 101]⟩)))), (9, 1, (.val (.lit (.string ⟨#[119, 105, 116, 104]⟩)))), (10, 1, (.val (.lit (.string ⟨#[112, 114, 105, 110, 116]⟩)))), (11, 1, (.val (.lit (.string ⟨#[99, 97, 108, 108]⟩)))), (12, 1, (.val (.lit (.string ⟨#[114, 101, 116, 117, 114, 110]⟩)))), (13, 1, (.val (.lit (.string ⟨#[116, 114, 117, 101]⟩)))), (14, 1, (.val (.lit (.string ⟨#[102, 97, 108, 115, 101]⟩))))], none⟩,
      ⟨some 6, .len 1 (.tmp 5), none⟩,
      ⟨some 7, .val (.val (.lit (.int .i64 0))), none⟩]) (
   .block 0 (
     .loop a_bobbinref02_Reservedb1))) (
  .seq (
   .ops [⟨some 2, .val (.val (.lit (.bool false))), none⟩]) (
  .ret)))

theorem c_bobbinref02_Reserved : codeOf Tryz.prog {  } 85 = some (a_bobbinref02_Reserved, [.tmp 2], 15) := by kernel_rfl

/-- bobbin/code.named -/
def a_code_namedb1 : ACode :=
       .seq (
        .ops [⟨some 29, .bin .lss .num (.tmp 28) (.tmp 27), none⟩]) (
       .seq (
        .cond (.tmp 29) (
          .skip) (
          .exit 2)) (
       .seq (
        .block 3 (
          .seq (
           .ops [⟨some 30, .indexAddr 5 (.tmp 26) (.tmp 28), none⟩,
             ⟨some 31, .load true 5 (.tmp 30), none⟩,
             ⟨some 7, .alloc [(.lit (.string ⟨#[]⟩)), (.lit (.bool false)), (.lit (.int .i64 0)), (.lit (.int .i64 0)), (.sl .nil 0 [])], none⟩,
             ⟨none, .store 5 (.tmp 7) (.tmp 31), none⟩]) (
          .ops [⟨some 32, .val (.tmp 3), none⟩,
            ⟨some 33, .fieldAddr 0 (.tmp 7), none⟩,
            ⟨some 34, .load false 1 (.tmp 33), none⟩,
            ⟨some 35, .bslice false 1 1 [(.lit (.string ⟨#[]⟩))] [(0, 1, (.tmp 34))], none⟩,
            ⟨some 36, .append false 1 16 (.tmp 32) (.tmp 35), none⟩,
            ⟨some 3, .val (.tmp 36), none⟩]))) (
       .ops [⟨some 37, .bin .add .num (.tmp 28) (.val (.lit (.int .i64 1))), none⟩,
         ⟨some 28, .val (.tmp 37), none⟩])))

def a_code_namedb2 : ACode :=
       .seq (
        .ops [⟨some 12, .bin .lss .num (.tmp 11) (.tmp 10), none⟩]) (
       .seq (
        .cond (.tmp 12) (
          .skip) (
          .exit 0)) (
       .seq (
        .block 1 (
          .seq (
           .ops [⟨some 13, .indexAddr 3 (.tmp 9) (.tmp 11), none⟩,
             ⟨some 14, .load true 3 (.tmp 13), none⟩,
             ⟨some 5, .alloc [(.lit (.string ⟨#[]⟩)), (.lit (.int .i64 0)), (.lit (.int .i64 0))], none⟩,
             ⟨none, .store 3 (.tmp 5) (.tmp 14), none⟩]) (
          .ops [⟨some 15, .val (.tmp 3), none⟩,
            ⟨some 16, .fieldAddr 0 (.tmp 5), none⟩,
            ⟨some 17, .load false 1 (.tmp 16), none⟩,
            ⟨some 18, .bslice false 1 1 [(.lit (.string ⟨#[]⟩))] [(0, 1, (.tmp 17))], none⟩,
            ⟨some 19, .append false 1 16 (.tmp 15) (.tmp 18), none⟩,
            ⟨some 3, .val (.tmp 19), none⟩]))) (
       .ops [⟨some 20, .bin .add .num (.tmp 11) (.val (.lit (.int .i64 1))), none⟩,
         ⟨some 11, .val (.tmp 20), none⟩])))

def a_code_named : ACode :=
  .seq (
   .ops [⟨some 1, .box true (.tmp 0), none⟩,
     ⟨some 2, .val (.val (.lit (.bool false))), none⟩]) (
  .seq (
   .ops [⟨some 3, .val (.val (.sl .nil 0 [])), none⟩]) (
  .seq (
   .seq (
    .ops [⟨some 8, .fieldAddr 0 (.tmp 1), none⟩,
      ⟨some 9, .iload false 1 (.tmp 8), none⟩,
      ⟨some 10, .len 1 (.tmp 9), none⟩,
      ⟨some 11, .val (.val (.lit (.int .i64 0))), none⟩]) (
   .block 0 (
     .loop a_code_namedb2))) (
  .seq (
   .ops [⟨some 21, .val (.tmp 3), none⟩,
     ⟨some 22, .fieldAddr 1 (.tmp 1), none⟩,
     ⟨some 23, .iload false 1 (.tmp 22), none⟩,
     ⟨some 24, .append false 1 16 (.tmp 21) (.tmp 23), none⟩,
     ⟨some 3, .val (.tmp 24), none⟩]) (
  .seq (
   .seq (
    .ops [⟨some 25, .fieldAddr 2 (.tmp 1), none⟩,
      ⟨some 26, .iload false 1 (.tmp 25), none⟩,
      ⟨some 27, .len 1 (.tmp 26), none⟩,
      ⟨some 28, .val (.val (.lit (.int .i64 0))), none⟩]) (
   .block 2 (
     .loop a_code_namedb1))) (
  .seq (
   .ops [⟨some 38, .val (.tmp 3), none⟩,
     ⟨some 39, .call (.val (.fn (.func 69) [] [])) [(.tmp 38)], none⟩]) (
  .seq (
   .ops [⟨some 40, .val (.tmp 3), none⟩,
     ⟨some 41, .len 1 (.tmp 40), none⟩,
     ⟨some 42, .bin .leq .num (.tmp 41) (.val (.lit (.int .i64 256))), none⟩,
     ⟨some 43, .val (.tmp 42), none⟩,
     ⟨some 44, .val (.tmp 3), some (43, true)⟩,
     ⟨some 45, .call (.val (.fn (.func 71) [] [])) [(.tmp 44)], some (43, true)⟩,
     ⟨some 46, .call (.val (.fn (.func 70) [] [])) [(.tmp 45)], some (43, true)⟩,
     ⟨some 47, .len 1 (.tmp 46), some (43, true)⟩,
     ⟨some 48, .val (.tmp 3), some (43, true)⟩,
     ⟨some 49, .len 1 (.tmp 48), some (43, true)⟩,
     ⟨some 50, .bin .eql .num (.tmp 47) (.tmp 49), some (43, true)⟩,
     ⟨some 51, .pick (.tmp 43) (.tmp 50) (.val (.lit (.bool false))), none⟩,
     ⟨some 52, .val (.tmp 51), none⟩,
     ⟨some 53, .val (.tmp 3), some (52, true)⟩,
     ⟨some 54, .call (.val (.fn (.func 72) [] [])) [(.tmp 53), (.val (.fn (.func 73) [] []))], some (52, true)⟩,
     ⟨some 55, .un .not (.tmp 54), some (52, true)⟩,
     ⟨some 56, .pick (.tmp 52) (.tmp 55) (.val (.lit (.bool false))), none⟩,
     ⟨some 2, .val (.tmp 56), none⟩]) (
  .ret)))))))

theorem c_code_named : codeOf Tryz.prog { bz := [1], il := [9, 23, 26] } 51 = some (a_code_named, [.tmp 2], 57) := by kernel_rfl

/-- bobbin/code.named$1 -/
def a_code_named_1 : ACode :=
  .seq (
   .ops [⟨some 2, .val (.val (.lit (.bool false))), none⟩]) (
  .seq (
   .ops [⟨some 3, .val (.tmp 0), none⟩,
     ⟨some 4, .call (.val (.fn (.func 74) [] [])) [(.tmp 3)], none⟩,
     ⟨some 5, .un .not (.tmp 4), none⟩,
     ⟨some 2, .val (.tmp 5), none⟩]) (
  .ret))

theorem c_code_named_1 : codeOf Tryz.prog {  } 73 = some (a_code_named_1, [.tmp 2], 6) := by kernel_rfl

/-- slices.Clone[[]string,string] -/
def a_slices_Clone_string_string : ACode :=
  .seq (
   .ops [⟨some 2, .val (.val (.sl .nil 0 [])), none⟩]) (
  .seq (
   .seq (
    .ops [⟨some 3, .val (.tmp 0), none⟩,
      ⟨some 4, .bin .eql .slice (.tmp 3) (.val (.sl .nil 0 [])), none⟩]) (
   .cond (.tmp 4) (
     .seq (
      .ops [⟨some 2, .val (.val (.sl .nil 0 [])), none⟩]) (
     .ret)) (
     .skip))) (
  .seq (
   .ops [⟨some 5, .bslice false 1 0 [] [], none⟩,
     ⟨some 6, .val (.tmp 0), none⟩,
     ⟨some 7, .append false 1 16 (.tmp 5) (.tmp 6), none⟩,
     ⟨some 2, .val (.tmp 7), none⟩]) (
  .ret)))

theorem c_slices_Clone_string_string : codeOf Tryz.prog {  } 71 = some (a_slices_Clone_string_string, [.tmp 2], 8) := by kernel_rfl

/-- slices.ContainsFunc[[]string,string] -/
def a_slices_ContainsFunc_string_string : ACode :=
  .seq (
   .ops [⟨some 4, .val (.val (.lit (.bool false))), none⟩]) (
  .seq (
   .ops [⟨some 5, .val (.tmp 0), none⟩,
     ⟨some 6, .val (.tmp 1), none⟩,
     ⟨some 7, .call (.val (.fn (.func 89) [] [])) [(.tmp 5), (.tmp 6)], none⟩,
     ⟨some 8, .bin .geq .num (.tmp 7) (.val (.lit (.int .i64 0))), none⟩,
     ⟨some 4, .val (.tmp 8), none⟩]) (
  .ret))

theorem c_slices_ContainsFunc_string_string : codeOf Tryz.prog {  } 72 = some (a_slices_ContainsFunc_string_string, [.tmp 4], 9) := by kernel_rfl

/-- slices.IndexFunc[[]string,string] -/
def a_slices_IndexFunc_string_stringb1 : ACode :=
       .seq (
        .ops [⟨some 9, .bin .lss .num (.tmp 8) (.tmp 7), none⟩]) (
       .seq (
        .cond (.tmp 9) (
          .skip) (
          .exit 0)) (
       .seq (
        .block 1 (
          .seq (
           .ops [⟨some 10, .val (.tmp 8), none⟩,
             ⟨some 5, .val (.tmp 10), none⟩]) (
          .seq (
           .ops [⟨some 11, .val (.tmp 1), none⟩,
             ⟨some 12, .val (.tmp 0), none⟩,
             ⟨some 13, .val (.tmp 5), none⟩,
             ⟨some 14, .indexAddr 1 (.tmp 12) (.tmp 13), none⟩,
             ⟨some 15, .load false 1 (.tmp 14), none⟩,
             ⟨some 16, .call (.tmp 11) [(.tmp 15)], none⟩]) (
          .cond (.tmp 16) (
            .seq (
             .ops [⟨some 17, .val (.tmp 5), none⟩,
               ⟨some 4, .val (.tmp 17), none⟩]) (
            .ret)) (
            .skip))))) (
       .ops [⟨some 18, .bin .add .num (.tmp 8) (.val (.lit (.int .i64 1))), none⟩,
         ⟨some 8, .val (.tmp 18), none⟩])))

def a_slices_IndexFunc_string_string : ACode :=
  .seq (
   .ops [⟨some 4, .val (.val (.lit (.int .i64 0))), none⟩]) (
  .seq (
   .seq (
    .ops [⟨some 6, .val (.tmp 0), none⟩,
      ⟨some 7, .len 1 (.tmp 6), none⟩,
      ⟨some 8, .val (.val (.lit (.int .i64 0))), none⟩]) (
   .block 0 (
     .loop a_slices_IndexFunc_string_stringb1))) (
  .seq (
   .ops [⟨some 4, .val (.val (.lit (.int .i64 (-1)))), none⟩]) (
  .ret)))

theorem c_slices_IndexFunc_string_string : codeOf Tryz.prog {  } 89 = some (a_slices_IndexFunc_string_string, [.tmp 4], 19) := by kernel_rfl

/-- bobbin/code.mayFun -/
def a_code_mayFun : ACode :=
  .seq (
   .ops [⟨some 2, .box true (.tmp 0), none⟩,
     ⟨some 3, .box true (.tmp 1), none⟩,
     ⟨some 4, .val (.val (.lit (.bool false))), none⟩]) (
  .seq (
   .ops [⟨some 7, .fieldAddr 4 (.tmp 3), none⟩,
     ⟨some 8, .iload false 1 (.tmp 7), none⟩,
     ⟨some 9, .len 1 (.tmp 8), none⟩,
     ⟨some 5, .val (.tmp 9), none⟩]) (
  .seq (
   .seq (
    .ops [⟨some 10, .fieldAddr 2 (.tmp 3), none⟩,
      ⟨some 11, .iload false 1 (.tmp 10), none⟩,
      ⟨some 12, .bin .lss .num (.tmp 11) (.val (.lit (.int .i64 0))), none⟩,
      ⟨some 13, .val (.tmp 12), none⟩,
      ⟨some 14, .fieldAddr 2 (.tmp 3), some (13, false)⟩,
      ⟨some 15, .iload false 1 (.tmp 14), some (13, false)⟩,
      ⟨some 16, .bin .gtr .num (.tmp 15) (.val (.lit (.int .i64 8))), some (13, false)⟩,
      ⟨some 17, .pick (.tmp 13) (.val (.lit (.bool true))) (.tmp 16), none⟩,
      ⟨some 18, .val (.tmp 17), none⟩,
      ⟨some 19, .fieldAddr 1 (.tmp 3), some (18, false)⟩,
      ⟨some 20, .iload false 1 (.tmp 19), some (18, false)⟩,
      ⟨some 21, .val (.tmp 20), some (18, false)⟩,
      ⟨some 22, .fieldAddr 2 (.tmp 3), some (21, true)⟩,
      ⟨some 23, .iload false 1 (.tmp 22), some (21, true)⟩,
      ⟨some 24, .bin .gtr .num (.tmp 23) (.val (.lit (.int .i64 0))), some (21, true)⟩,
      ⟨some 25, .pick (.tmp 21) (.tmp 24) (.val (.lit (.bool false))), some (18, false)⟩,
      ⟨some 26, .pick (.tmp 18) (.val (.lit (.bool true))) (.tmp 25), none⟩,
      ⟨some 27, .val (.tmp 26), none⟩,
      ⟨some 28, .fieldAddr 3 (.tmp 3), some (27, false)⟩,
      ⟨some 29, .iload false 1 (.tmp 28), some (27, false)⟩,
      ⟨some 30, .fieldAddr 2 (.tmp 3), some (27, false)⟩,
      ⟨some 31, .iload false 1 (.tmp 30), some (27, false)⟩,
      ⟨some 32, .bin .lss .num (.tmp 29) (.tmp 31), some (27, false)⟩,
      ⟨some 33, .pick (.tmp 27) (.val (.lit (.bool true))) (.tmp 32), none⟩,
      ⟨some 34, .val (.tmp 33), none⟩,
      ⟨some 35, .fieldAddr 3 (.tmp 3), some (34, false)⟩,
      ⟨some 36, .iload false 1 (.tmp 35), some (34, false)⟩,
      ⟨some 37, .bin .gtr .num (.tmp 36) (.val (.lit (.int .i64 4096))), some (34, false)⟩,
      ⟨some 38, .pick (.tmp 34) (.val (.lit (.bool true))) (.tmp 37), none⟩,
      ⟨some 39, .val (.tmp 38), none⟩,
      ⟨some 40, .val (.tmp 5), some (39, false)⟩,
      ⟨some 41, .bin .lss .num (.tmp 40) (.val (.lit (.int .i64 1))), some (39, false)⟩,
      ⟨some 42, .pick (.tmp 39) (.val (.lit (.bool true))) (.tmp 41), none⟩,
      ⟨some 43, .val (.tmp 42), none⟩,
      ⟨some 44, .val (.tmp 5), some (43, false)⟩,
      ⟨some 45, .bin .gtr .num (.tmp 44) (.val (.lit (.int .i64 16384))), some (43, false)⟩,
      ⟨some 46, .pick (.tmp 43) (.val (.lit (.bool true))) (.tmp 45), none⟩]) (
   .cond (.tmp 46) (
     .seq (
      .ops [⟨some 4, .val (.val (.lit (.bool false))), none⟩]) (
     .ret)) (
     .skip))) (
  .seq (
   .seq (
    .ops [⟨some 47, .fieldAddr 4 (.tmp 3), none⟩,
      ⟨some 48, .iload false 1 (.tmp 47), none⟩,
      ⟨some 49, .val (.tmp 5), none⟩,
      ⟨some 50, .bin .sub .num (.tmp 49) (.val (.lit (.int .i64 1))), none⟩,
      ⟨some 51, .indexAddr 6 (.tmp 48) (.tmp 50), none⟩,
      ⟨some 52, .fieldAddr 0 (.tmp 51), none⟩,
      ⟨some 53, .load false 1 (.tmp 52), none⟩,
      ⟨some 6, .val (.tmp 53), none⟩]) (
   .seq (
    .ops [⟨some 54, .val (.tmp 6), none⟩,
      ⟨some 55, .bin .neq .num (.tmp 54) (.val (.lit (.int .u8 11))), none⟩,
      ⟨some 56, .val (.tmp 55), none⟩,
      ⟨some 57, .val (.tmp 6), some (56, true)⟩,
      ⟨some 58, .bin .neq .num (.tmp 57) (.val (.lit (.int .u8 13))), some (56, true)⟩,
      ⟨some 59, .pick (.tmp 56) (.tmp 58) (.val (.lit (.bool false))), none⟩]) (
   .cond (.tmp 59) (
     .seq (
      .ops [⟨some 4, .val (.val (.lit (.bool false))), none⟩]) (
     .ret)) (
     .skip)))) (
  .seq (
   .ops [⟨some 60, .fieldAddr 4 (.tmp 3), none⟩,
     ⟨some 61, .iload false 1 (.tmp 60), none⟩,
     ⟨some 62, .mkfn (.func 78) [] [(.tmp 2), (.tmp 3)], none⟩,
     ⟨some 63, .call (.val (.fn (.func 77) [] [])) [(.tmp 61), (.tmp 62)], none⟩,
     ⟨some 64, .un .not (.tmp 63), none⟩,
     ⟨some 4, .val (.tmp 64), none⟩]) (
  .ret)))))

theorem c_code_mayFun : codeOf Tryz.prog { bz := [2, 3], il := [8, 11, 15, 20, 23, 29, 31, 36, 48, 61] } 57 = some (a_code_mayFun, [.tmp 4], 65) := by kernel_rfl

/-- bobbin/code.mayFun$1 -/
def a_code_mayFun_1 : ACode :=
  .seq (
   .ops [⟨some 3, .box true (.tmp 0), none⟩,
     ⟨some 4, .val (.val (.lit (.bool false))), none⟩]) (
  .seq (
   .ops [⟨some 5, .load true 3 (.tmp 1), none⟩,
     ⟨some 6, .load true 5 (.tmp 2), none⟩,
     ⟨some 7, .iload true 6 (.tmp 3), none⟩,
     ⟨some 8, .call (.val (.fn (.func 79) [] [])) [(.tmp 5), (.tmp 6), (.tmp 7)], none⟩,
     ⟨some 9, .un .not (.tmp 8), none⟩,
     ⟨some 4, .val (.tmp 9), none⟩]) (
  .ret))

theorem c_code_mayFun_1 : codeOf Tryz.prog { bz := [3], il := [7] } 78 = some (a_code_mayFun_1, [.tmp 4], 10) := by kernel_rfl

/-- slices.ContainsFunc[[]bobbin/api.Ins,bobbin/api.Ins] -/
def a_slices_ContainsFunc_api_Ins_api_Ins : ACode :=
  .seq (
   .ops [⟨some 4, .val (.val (.lit (.bool false))), none⟩]) (
  .seq (
   .ops [⟨some 5, .val (.tmp 0), none⟩,
     ⟨some 6, .val (.tmp 1), none⟩,
     ⟨some 7, .call (.val (.fn (.func 92) [] [])) [(.tmp 5), (.tmp 6)], none⟩,
     ⟨some 8, .bin .geq .num (.tmp 7) (.val (.lit (.int .i64 0))), none⟩,
     ⟨some 4, .val (.tmp 8), none⟩]) (
  .ret))

theorem c_slices_ContainsFunc_api_Ins_api_Ins : codeOf Tryz.prog {  } 77 = some (a_slices_ContainsFunc_api_Ins_api_Ins, [.tmp 4], 9) := by kernel_rfl

/-- slices.IndexFunc[[]bobbin/api.Ins,bobbin/api.Ins] -/
def a_slices_IndexFunc_api_Ins_api_Insb1 : ACode :=
       .seq (
        .ops [⟨some 9, .bin .lss .num (.tmp 8) (.tmp 7), none⟩]) (
       .seq (
        .cond (.tmp 9) (
          .skip) (
          .exit 0)) (
       .seq (
        .block 1 (
          .seq (
           .ops [⟨some 10, .val (.tmp 8), none⟩,
             ⟨some 5, .val (.tmp 10), none⟩]) (
          .seq (
           .ops [⟨some 11, .val (.tmp 1), none⟩,
             ⟨some 12, .val (.tmp 0), none⟩,
             ⟨some 13, .val (.tmp 5), none⟩,
             ⟨some 14, .indexAddr 6 (.tmp 12) (.tmp 13), none⟩,
             ⟨some 15, .load true 6 (.tmp 14), none⟩,
             ⟨some 16, .call (.tmp 11) [(.tmp 15)], none⟩]) (
          .cond (.tmp 16) (
            .seq (
             .ops [⟨some 17, .val (.tmp 5), none⟩,
               ⟨some 4, .val (.tmp 17), none⟩]) (
            .ret)) (
            .skip))))) (
       .ops [⟨some 18, .bin .add .num (.tmp 8) (.val (.lit (.int .i64 1))), none⟩,
         ⟨some 8, .val (.tmp 18), none⟩])))

def a_slices_IndexFunc_api_Ins_api_Ins : ACode :=
  .seq (
   .ops [⟨some 4, .val (.val (.lit (.int .i64 0))), none⟩]) (
  .seq (
   .seq (
    .ops [⟨some 6, .val (.tmp 0), none⟩,
      ⟨some 7, .len 1 (.tmp 6), none⟩,
      ⟨some 8, .val (.val (.lit (.int .i64 0))), none⟩]) (
   .block 0 (
     .loop a_slices_IndexFunc_api_Ins_api_Insb1))) (
  .seq (
   .ops [⟨some 4, .val (.val (.lit (.int .i64 (-1)))), none⟩]) (
  .ret)))

theorem c_slices_IndexFunc_api_Ins_api_Ins : codeOf Tryz.prog {  } 92 = some (a_slices_IndexFunc_api_Ins_api_Ins, [.tmp 4], 19) := by kernel_rfl

/-- bobbin/code.May -/
def a_code_May : ACode :=
  .seq (
   .ops [⟨some 1, .box true (.tmp 0), none⟩,
     ⟨some 2, .val (.val (.lit (.bool false))), none⟩]) (
  .seq (
   .seq (
    .ops [⟨some 3, .iload true 3 (.tmp 1), none⟩,
      ⟨some 4, .call (.val (.fn (.func 51) [] [])) [(.tmp 3)], none⟩,
      ⟨some 5, .un .not (.tmp 4), none⟩,
      ⟨some 6, .val (.tmp 5), none⟩,
      ⟨some 7, .iload true 3 (.tmp 1), some (6, false)⟩,
      ⟨some 8, .call (.val (.fn (.func 52) [] [])) [(.tmp 7)], some (6, false)⟩,
      ⟨some 9, .len 1 (.tmp 8), some (6, false)⟩,
      ⟨some 10, .bin .gtr .num (.tmp 9) (.val (.lit (.int .i64 16))), some (6, false)⟩,
      ⟨some 11, .pick (.tmp 6) (.val (.lit (.bool true))) (.tmp 10), none⟩,
      ⟨some 12, .val (.tmp 11), none⟩,
      ⟨some 13, .fieldAddr 0 (.tmp 1), some (12, false)⟩,
      ⟨some 14, .iload false 1 (.tmp 13), some (12, false)⟩,
      ⟨some 15, .call (.val (.fn (.func 53) [] [])) [(.tmp 14), (.val (.fn (.func 54) [] []))], some (12, false)⟩,
      ⟨some 16, .pick (.tmp 12) (.val (.lit (.bool true))) (.tmp 15), none⟩]) (
   .cond (.tmp 16) (
     .seq (
      .ops [⟨some 2, .val (.val (.lit (.bool false))), none⟩]) (
     .ret)) (
     .skip))) (
  .seq (
   .ops [⟨some 17, .fieldAddr 2 (.tmp 1), none⟩,
     ⟨some 18, .iload false 1 (.tmp 17), none⟩,
     ⟨some 19, .mkfn (.func 56) [] [(.tmp 1)], none⟩,
     ⟨some 20, .call (.val (.fn (.func 55) [] [])) [(.tmp 18), (.tmp 19)], none⟩,
     ⟨some 21, .un .not (.tmp 20), none⟩,
     ⟨some 2, .val (.tmp 21), none⟩]) (
  .ret)))

theorem c_code_May : codeOf Tryz.prog { bz := [1], il := [3, 7, 14, 18] } 20 = some (a_code_May, [.tmp 2], 22) := by kernel_rfl

/-- bobbin/code.May$1 -/
def a_code_May_1 : ACode :=
  .seq (
   .ops [⟨some 1, .box true (.tmp 0), none⟩,
     ⟨some 2, .val (.val (.lit (.bool false))), none⟩]) (
  .seq (
   .ops [⟨some 3, .fieldAddr 1 (.tmp 1), none⟩,
     ⟨some 4, .iload false 1 (.tmp 3), none⟩,
     ⟨some 5, .bin .lss .num (.tmp 4) (.val (.lit (.int .i64 1))), none⟩,
     ⟨some 6, .val (.tmp 5), none⟩,
     ⟨some 7, .fieldAddr 1 (.tmp 1), some (6, false)⟩,
     ⟨some 8, .iload false 1 (.tmp 7), some (6, false)⟩,
     ⟨some 9, .bin .gtr .num (.tmp 8) (.val (.lit (.int .i64 1024))), some (6, false)⟩,
     ⟨some 10, .pick (.tmp 6) (.val (.lit (.bool true))) (.tmp 9), none⟩,
     ⟨some 2, .val (.tmp 10), none⟩]) (
  .ret))

theorem c_code_May_1 : codeOf Tryz.prog { bz := [1], il := [4, 8] } 54 = some (a_code_May_1, [.tmp 2], 11) := by kernel_rfl

/-- bobbin/code.May$2 -/
def a_code_May_2 : ACode :=
  .seq (
   .ops [⟨some 2, .box true (.tmp 0), none⟩,
     ⟨some 3, .val (.val (.lit (.bool false))), none⟩]) (
  .seq (
   .ops [⟨some 4, .load true 3 (.tmp 1), none⟩,
     ⟨some 5, .iload true 5 (.tmp 2), none⟩,
     ⟨some 6, .call (.val (.fn (.func 57) [] [])) [(.tmp 4), (.tmp 5)], none⟩,
     ⟨some 7, .un .not (.tmp 6), none⟩,
     ⟨some 3, .val (.tmp 7), none⟩]) (
  .ret))

theorem c_code_May_2 : codeOf Tryz.prog { bz := [2], il := [5] } 56 = some (a_code_May_2, [.tmp 3], 8) := by kernel_rfl

/-- slices.ContainsFunc[[]bobbin/api.Mem,bobbin/api.Mem] -/
def a_slices_ContainsFunc_api_Mem_api_Mem : ACode :=
  .seq (
   .ops [⟨some 4, .val (.val (.lit (.bool false))), none⟩]) (
  .seq (
   .ops [⟨some 5, .val (.tmp 0), none⟩,
     ⟨some 6, .val (.tmp 1), none⟩,
     ⟨some 7, .call (.val (.fn (.func 75) [] [])) [(.tmp 5), (.tmp 6)], none⟩,
     ⟨some 8, .bin .geq .num (.tmp 7) (.val (.lit (.int .i64 0))), none⟩,
     ⟨some 4, .val (.tmp 8), none⟩]) (
  .ret))

theorem c_slices_ContainsFunc_api_Mem_api_Mem : codeOf Tryz.prog {  } 53 = some (a_slices_ContainsFunc_api_Mem_api_Mem, [.tmp 4], 9) := by kernel_rfl

/-- slices.IndexFunc[[]bobbin/api.Mem,bobbin/api.Mem] -/
def a_slices_IndexFunc_api_Mem_api_Memb1 : ACode :=
       .seq (
        .ops [⟨some 9, .bin .lss .num (.tmp 8) (.tmp 7), none⟩]) (
       .seq (
        .cond (.tmp 9) (
          .skip) (
          .exit 0)) (
       .seq (
        .block 1 (
          .seq (
           .ops [⟨some 10, .val (.tmp 8), none⟩,
             ⟨some 5, .val (.tmp 10), none⟩]) (
          .seq (
           .ops [⟨some 11, .val (.tmp 1), none⟩,
             ⟨some 12, .val (.tmp 0), none⟩,
             ⟨some 13, .val (.tmp 5), none⟩,
             ⟨some 14, .indexAddr 3 (.tmp 12) (.tmp 13), none⟩,
             ⟨some 15, .load true 3 (.tmp 14), none⟩,
             ⟨some 16, .call (.tmp 11) [(.tmp 15)], none⟩]) (
          .cond (.tmp 16) (
            .seq (
             .ops [⟨some 17, .val (.tmp 5), none⟩,
               ⟨some 4, .val (.tmp 17), none⟩]) (
            .ret)) (
            .skip))))) (
       .ops [⟨some 18, .bin .add .num (.tmp 8) (.val (.lit (.int .i64 1))), none⟩,
         ⟨some 8, .val (.tmp 18), none⟩])))

def a_slices_IndexFunc_api_Mem_api_Mem : ACode :=
  .seq (
   .ops [⟨some 4, .val (.val (.lit (.int .i64 0))), none⟩]) (
  .seq (
   .seq (
    .ops [⟨some 6, .val (.tmp 0), none⟩,
      ⟨some 7, .len 1 (.tmp 6), none⟩,
      ⟨some 8, .val (.val (.lit (.int .i64 0))), none⟩]) (
   .block 0 (
     .loop a_slices_IndexFunc_api_Mem_api_Memb1))) (
  .seq (
   .ops [⟨some 4, .val (.val (.lit (.int .i64 (-1)))), none⟩]) (
  .ret)))

theorem c_slices_IndexFunc_api_Mem_api_Mem : codeOf Tryz.prog {  } 75 = some (a_slices_IndexFunc_api_Mem_api_Mem, [.tmp 4], 19) := by kernel_rfl

/-- slices.ContainsFunc[[]bobbin/api.Fun,bobbin/api.Fun] -/
def a_slices_ContainsFunc_api_Fun_api_Fun : ACode :=
  .seq (
   .ops [⟨some 4, .val (.val (.lit (.bool false))), none⟩]) (
  .seq (
   .ops [⟨some 5, .val (.tmp 0), none⟩,
     ⟨some 6, .val (.tmp 1), none⟩,
     ⟨some 7, .call (.val (.fn (.func 76) [] [])) [(.tmp 5), (.tmp 6)], none⟩,
     ⟨some 8, .bin .geq .num (.tmp 7) (.val (.lit (.int .i64 0))), none⟩,
     ⟨some 4, .val (.tmp 8), none⟩]) (
  .ret))

theorem c_slices_ContainsFunc_api_Fun_api_Fun : codeOf Tryz.prog {  } 55 = some (a_slices_ContainsFunc_api_Fun_api_Fun, [.tmp 4], 9) := by kernel_rfl

/-- slices.IndexFunc[[]bobbin/api.Fun,bobbin/api.Fun] -/
def a_slices_IndexFunc_api_Fun_api_Funb1 : ACode :=
       .seq (
        .ops [⟨some 9, .bin .lss .num (.tmp 8) (.tmp 7), none⟩]) (
       .seq (
        .cond (.tmp 9) (
          .skip) (
          .exit 0)) (
       .seq (
        .block 1 (
          .seq (
           .ops [⟨some 10, .val (.tmp 8), none⟩,
             ⟨some 5, .val (.tmp 10), none⟩]) (
          .seq (
           .ops [⟨some 11, .val (.tmp 1), none⟩,
             ⟨some 12, .val (.tmp 0), none⟩,
             ⟨some 13, .val (.tmp 5), none⟩,
             ⟨some 14, .indexAddr 5 (.tmp 12) (.tmp 13), none⟩,
             ⟨some 15, .load true 5 (.tmp 14), none⟩,
             ⟨some 16, .call (.tmp 11) [(.tmp 15)], none⟩]) (
          .cond (.tmp 16) (
            .seq (
             .ops [⟨some 17, .val (.tmp 5), none⟩,
               ⟨some 4, .val (.tmp 17), none⟩]) (
            .ret)) (
            .skip))))) (
       .ops [⟨some 18, .bin .add .num (.tmp 8) (.val (.lit (.int .i64 1))), none⟩,
         ⟨some 8, .val (.tmp 18), none⟩])))

def a_slices_IndexFunc_api_Fun_api_Fun : ACode :=
  .seq (
   .ops [⟨some 4, .val (.val (.lit (.int .i64 0))), none⟩]) (
  .seq (
   .seq (
    .ops [⟨some 6, .val (.tmp 0), none⟩,
      ⟨some 7, .len 1 (.tmp 6), none⟩,
      ⟨some 8, .val (.val (.lit (.int .i64 0))), none⟩]) (
   .block 0 (
     .loop a_slices_IndexFunc_api_Fun_api_Funb1))) (
  .seq (
   .ops [⟨some 4, .val (.val (.lit (.int .i64 (-1)))), none⟩]) (
  .ret)))

theorem c_slices_IndexFunc_api_Fun_api_Fun : codeOf Tryz.prog {  } 76 = some (a_slices_IndexFunc_api_Fun_api_Fun, [.tmp 4], 19) := by kernel_rfl

/-- bobbin/code.Threads -/
def a_code_Threadsb1 : ACode :=
       .seq (
        .ops [⟨some 10, .bin .lss .num (.tmp 9) (.tmp 8), none⟩]) (
       .seq (
        .cond (.tmp 10) (
          .skip) (
          .exit 0)) (
       .seq (
        .block 1 (
          .seq (
           .ops [⟨some 11, .val (.tmp 9), none⟩,
             ⟨some 12, .indexAddr 5 (.tmp 7) (.tmp 9), none⟩,
             ⟨some 13, .load true 5 (.tmp 12), none⟩,
             ⟨some 5, .alloc [(.lit (.string ⟨#[]⟩)), (.lit (.bool false)), (.lit (.int .i64 0)), (.lit (.int .i64 0)), (.sl .nil 0 [])], none⟩,
             ⟨some 4, .val (.tmp 11), none⟩,
             ⟨none, .store 5 (.tmp 5) (.tmp 13), none⟩]) (
          .seq (
           .ops [⟨some 14, .fieldAddr 1 (.tmp 5), none⟩,
             ⟨some 15, .load false 1 (.tmp 14), none⟩]) (
          .cond (.tmp 15) (
            .ops [⟨some 16, .val (.tmp 3), none⟩,
              ⟨some 17, .val (.tmp 4), none⟩,
              ⟨some 18, .bslice false 1 1 [(.lit (.int .i64 0))] [(0, 1, (.tmp 17))], none⟩,
              ⟨some 19, .append false 1 8 (.tmp 16) (.tmp 18), none⟩,
              ⟨some 3, .val (.tmp 19), none⟩]) (
            .skip))))) (
       .ops [⟨some 20, .bin .add .num (.tmp 9) (.val (.lit (.int .i64 1))), none⟩,
         ⟨some 9, .val (.tmp 20), none⟩])))

def a_code_Threads : ACode :=
  .seq (
   .ops [⟨some 1, .box true (.tmp 0), none⟩,
     ⟨some 2, .val (.val (.sl .nil 0 [])), none⟩]) (
  .seq (
   .ops [⟨some 3, .val (.val (.sl .nil 0 [])), none⟩]) (
  .seq (
   .seq (
    .ops [⟨some 6, .fieldAddr 2 (.tmp 1), none⟩,
      ⟨some 7, .iload false 1 (.tmp 6), none⟩,
      ⟨some 8, .len 1 (.tmp 7), none⟩,
      ⟨some 9, .val (.val (.lit (.int .i64 0))), none⟩]) (
   .block 0 (
     .loop a_code_Threadsb1))) (
  .seq (
   .ops [⟨some 21, .val (.tmp 3), none⟩,
     ⟨some 2, .val (.tmp 21), none⟩]) (
  .ret))))

theorem c_code_Threads : codeOf Tryz.prog { bz := [1], il := [7] } 52 = some (a_code_Threads, [.tmp 2], 22) := by kernel_rfl

/-- slices.Equal[[]bobbin/api.Mem,bobbin/api.Mem] -/
def a_slices_Equal_api_Mem_api_Memb1 : ACode :=
       .seq (
        .ops [⟨some 14, .bin .lss .num (.tmp 13) (.tmp 12), none⟩]) (
       .seq (
        .cond (.tmp 14) (
          .skip) (
          .exit 0)) (
       .seq (
        .block 1 (
          .seq (
           .ops [⟨some 15, .val (.tmp 13), none⟩,
             ⟨some 5, .val (.tmp 15), none⟩]) (
          .seq (
           .ops [⟨some 16, .val (.tmp 0), none⟩,
             ⟨some 17, .val (.tmp 5), none⟩,
             ⟨some 18, .indexAddr 3 (.tmp 16) (.tmp 17), none⟩,
             ⟨some 20, .val (.tmp 1), none⟩,
             ⟨some 21, .val (.tmp 5), none⟩,
             ⟨some 22, .indexAddr 3 (.tmp 20) (.tmp 21), none⟩,
             ⟨some 19, .load true 3 (.tmp 18), none⟩,
             ⟨some 23, .load true 3 (.tmp 22), none⟩,
             ⟨some 24, .eqS true [(0, 1), (1, 0), (2, 0)] (.tmp 19) (.tmp 23), none⟩]) (
          .cond (.tmp 24) (
            .seq (
             .ops [⟨some 4, .val (.val (.lit (.bool false))), none⟩]) (
            .ret)) (
            .skip))))) (
       .ops [⟨some 25, .bin .add .num (.tmp 13) (.val (.lit (.int .i64 1))), none⟩,
         ⟨some 13, .val (.tmp 25), none⟩])))

def a_slices_Equal_api_Mem_api_Mem : ACode :=
  .seq (
   .ops [⟨some 4, .val (.val (.lit (.bool false))), none⟩]) (
  .seq (
   .seq (
    .ops [⟨some 6, .val (.tmp 0), none⟩,
      ⟨some 7, .len 1 (.tmp 6), none⟩,
      ⟨some 8, .val (.tmp 1), none⟩,
      ⟨some 9, .len 1 (.tmp 8), none⟩,
      ⟨some 10, .bin .neq .num (.tmp 7) (.tmp 9), none⟩]) (
   .cond (.tmp 10) (
     .seq (
      .ops [⟨some 4, .val (.val (.lit (.bool false))), none⟩]) (
     .ret)) (
     .skip))) (
  .seq (
   .seq (
    .ops [⟨some 11, .val (.tmp 0), none⟩,
      ⟨some 12, .len 1 (.tmp 11), none⟩,
      ⟨some 13, .val (.val (.lit (.int .i64 0))), none⟩]) (
   .block 0 (
     .loop a_slices_Equal_api_Mem_api_Memb1))) (
  .seq (
   .ops [⟨some 4, .val (.val (.lit (.bool true))), none⟩]) (
  .ret))))

theorem c_slices_Equal_api_Mem_api_Mem : codeOf Tryz.prog {  } 30 = some (a_slices_Equal_api_Mem_api_Mem, [.tmp 4], 26) := by kernel_rfl

/-- slices.Equal[[]string,string] -/
def a_slices_Equal_string_stringb1 : ACode :=
       .seq (
        .ops [⟨some 14, .bin .lss .num (.tmp 13) (.tmp 12), none⟩]) (
       .seq (
        .cond (.tmp 14) (
          .skip) (
          .exit 0)) (
       .seq (
        .block 1 (
          .seq (
           .ops [⟨some 15, .val (.tmp 13), none⟩,
             ⟨some 5, .val (.tmp 15), none⟩]) (
          .seq (
           .ops [⟨some 16, .val (.tmp 0), none⟩,
             ⟨some 17, .val (.tmp 5), none⟩,
             ⟨some 18, .indexAddr 1 (.tmp 16) (.tmp 17), none⟩,
             ⟨some 20, .val (.tmp 1), none⟩,
             ⟨some 21, .val (.tmp 5), none⟩,
             ⟨some 22, .indexAddr 1 (.tmp 20) (.tmp 21), none⟩,
             ⟨some 19, .load false 1 (.tmp 18), none⟩,
             ⟨some 23, .load false 1 (.tmp 22), none⟩,
             ⟨some 24, .bin .neq .num (.tmp 19) (.tmp 23), none⟩]) (
          .cond (.tmp 24) (
            .seq (
             .ops [⟨some 4, .val (.val (.lit (.bool false))), none⟩]) (
            .ret)) (
            .skip))))) (
       .ops [⟨some 25, .bin .add .num (.tmp 13) (.val (.lit (.int .i64 1))), none⟩,
         ⟨some 13, .val (.tmp 25), none⟩])))

def a_slices_Equal_string_string : ACode :=
  .seq (
   .ops [⟨some 4, .val (.val (.lit (.bool false))), none⟩]) (
  .seq (
   .seq (
    .ops [⟨some 6, .val (.tmp 0), none⟩,
      ⟨some 7, .len 1 (.tmp 6), none⟩,
      ⟨some 8, .val (.tmp 1), none⟩,
      ⟨some 9, .len 1 (.tmp 8), none⟩,
      ⟨some 10, .bin .neq .num (.tmp 7) (.tmp 9), none⟩]) (
   .cond (.tmp 10) (
     .seq (
      .ops [⟨some 4, .val (.val (.lit (.bool false))), none⟩]) (
     .ret)) (
     .skip))) (
  .seq (
   .seq (
    .ops [⟨some 11, .val (.tmp 0), none⟩,
      ⟨some 12, .len 1 (.tmp 11), none⟩,
      ⟨some 13, .val (.val (.lit (.int .i64 0))), none⟩]) (
   .block 0 (
     .loop a_slices_Equal_string_stringb1))) (
  .seq (
   .ops [⟨some 4, .val (.val (.lit (.bool true))), none⟩]) (
  .ret))))

theorem c_slices_Equal_string_string : codeOf Tryz.prog {  } 31 = some (a_slices_Equal_string_string, [.tmp 4], 26) := by kernel_rfl

/-- bobbin/bobbinref07.May -/
def a_bobbinref07_Mayb1 : ACode :=
              .seq (
               .seq (
                .ops [⟨some 157, .val (.tmp 10), none⟩,
                  ⟨some 158, .val (.tmp 9), none⟩,
                  ⟨some 159, .bin .lss .num (.tmp 157) (.tmp 158), none⟩]) (
               .cond (.tmp 159) (
                 .skip) (
                 .exit 8))) (
              .seq (
               .block 9 (
                 .seq (
                  .ops [⟨some 162, .val (.tmp 3), none⟩,
                    ⟨some 163, .val (.tmp 10), none⟩,
                    ⟨some 164, .indexAddr 1 (.tmp 162) (.tmp 163), none⟩,
                    ⟨some 166, .val (.tmp 3), none⟩,
                    ⟨some 167, .val (.tmp 9), none⟩,
                    ⟨some 168, .indexAddr 1 (.tmp 166) (.tmp 167), none⟩,
                    ⟨some 165, .load false 1 (.tmp 164), none⟩,
                    ⟨some 169, .load false 1 (.tmp 168), none⟩,
                    ⟨some 170, .bin .eql .num (.tmp 165) (.tmp 169), none⟩]) (
                 .cond (.tmp 170) (
                   .seq (
                    .ops [⟨some 2, .val (.val (.lit (.bool false))), none⟩]) (
                   .ret)) (
                   .skip)))) (
              .ops [⟨some 160, .val (.tmp 10), none⟩,
                ⟨some 161, .bin .add .num (.tmp 160) (.val (.lit (.int .i64 1))), none⟩,
                ⟨some 10, .val (.tmp 161), none⟩]))

def a_bobbinref07_Mayb2 : ACode :=
       .seq (
        .seq (
         .ops [⟨some 145, .val (.tmp 9), none⟩,
           ⟨some 146, .val (.tmp 3), none⟩,
           ⟨some 147, .len 1 (.tmp 146), none⟩,
           ⟨some 148, .bin .lss .num (.tmp 145) (.tmp 147), none⟩]) (
        .cond (.tmp 148) (
          .skip) (
          .exit 6))) (
       .seq (
        .block 7 (
          .seq (
           .seq (
            .ops [⟨some 151, .val (.tmp 3), none⟩,
              ⟨some 152, .val (.tmp 9), none⟩,
              ⟨some 153, .indexAddr 1 (.tmp 151) (.tmp 152), none⟩,
              ⟨some 154, .load false 1 (.tmp 153), none⟩,
              ⟨some 155, .call (.val (.fn (.func 64) [] [])) [(.tmp 154)], none⟩,
              ⟨some 156, .un .not (.tmp 155), none⟩]) (
           .cond (.tmp 156) (
             .seq (
              .ops [⟨some 2, .val (.val (.lit (.bool false))), none⟩]) (
             .ret)) (
             .skip))) (
          .seq (
           .ops [⟨some 10, .val (.val (.lit (.int .i64 0))), none⟩]) (
          .block 8 (
            .loop a_bobbinref07_Mayb1))))) (
       .ops [⟨some 149, .val (.tmp 9), none⟩,
         ⟨some 150, .bin .add .num (.tmp 149) (.val (.lit (.int .i64 1))), none⟩,
         ⟨some 9, .val (.tmp 150), none⟩]))

def a_bobbinref07_Mayb3 : ACode :=
              .seq (
               .seq (
                .ops [⟨some 120, .val (.tmp 8), none⟩,
                  ⟨some 121, .fieldAddr 4 (.tmp 6), none⟩,
                  ⟨some 122, .load false 1 (.tmp 121), none⟩,
                  ⟨some 123, .len 1 (.tmp 122), none⟩,
                  ⟨some 124, .bin .lss .num (.tmp 120) (.tmp 123), none⟩]) (
               .cond (.tmp 124) (
                 .skip) (
                 .exit 4))) (
              .seq (
               .block 5 (
                 .seq (
                  .ops [⟨some 127, .iload true 3 (.tmp 1), none⟩,
                    ⟨some 129, .fieldAddr 4 (.tmp 6), none⟩,
                    ⟨some 131, .val (.tmp 8), none⟩,
                    ⟨some 128, .load true 5 (.tmp 6), none⟩,
                    ⟨some 130, .load false 1 (.tmp 129), none⟩,
                    ⟨some 132, .indexAddr 6 (.tmp 130) (.tmp 131), none⟩,
                    ⟨some 133, .load true 6 (.tmp 132), none⟩,
                    ⟨some 134, .call (.val (.fn (.func 62) [] [])) [(.tmp 127), (.tmp 128), (.tmp 133)], none⟩,
                    ⟨some 135, .un .not (.tmp 134), none⟩]) (
                 .cond (.tmp 135) (
                   .seq (
                    .ops [⟨some 2, .val (.val (.lit (.bool false))), none⟩]) (
                   .ret)) (
                   .skip)))) (
              .ops [⟨some 125, .val (.tmp 8), none⟩,
                ⟨some 126, .bin .add .num (.tmp 125) (.val (.lit (.int .i64 1))), none⟩,
                ⟨some 8, .val (.tmp 126), none⟩]))

def a_refMay_h : ACode :=
           .seq (
            .ops [⟨some 64, .fieldAddr 2 (.tmp 6), none⟩,
              ⟨some 65, .load false 1 (.tmp 64), none⟩,
              ⟨some 66, .bin .lss .num (.tmp 65) (.val (.lit (.int .i64 0))), none⟩,
              ⟨some 67, .val (.tmp 66), none⟩,
              ⟨some 68, .fieldAddr 2 (.tmp 6), some (67, false)⟩,
              ⟨some 69, .load false 1 (.tmp 68), some (67, false)⟩,
              ⟨some 70, .bin .gtr .num (.tmp 69) (.val (.lit (.int .i64 8))), some (67, false)⟩,
              ⟨some 71, .pick (.tmp 67) (.val (.lit (.bool true))) (.tmp 70), none⟩,
              ⟨some 72, .val (.tmp 71), none⟩,
              ⟨some 73, .fieldAddr 1 (.tmp 6), some (72, false)⟩,
              ⟨some 74, .load false 1 (.tmp 73), some (72, false)⟩,
              ⟨some 75, .val (.tmp 74), some (72, false)⟩,
              ⟨some 76, .fieldAddr 2 (.tmp 6), some (75, true)⟩,
              ⟨some 77, .load false 1 (.tmp 76), some (75, true)⟩,
              ⟨some 78, .bin .neq .num (.tmp 77) (.val (.lit (.int .i64 0))), some (75, true)⟩,
              ⟨some 79, .pick (.tmp 75) (.tmp 78) (.val (.lit (.bool false))), some (72, false)⟩,
              ⟨some 80, .pick (.tmp 72) (.val (.lit (.bool true))) (.tmp 79), none⟩,
              ⟨some 81, .val (.tmp 80), none⟩,
              ⟨some 82, .fieldAddr 3 (.tmp 6), some (81, false)⟩,
              ⟨some 83, .load false 1 (.tmp 82), some (81, false)⟩,
              ⟨some 84, .fieldAddr 2 (.tmp 6), some (81, false)⟩,
              ⟨some 85, .load false 1 (.tmp 84), some (81, false)⟩,
              ⟨some 86, .bin .lss .num (.tmp 83) (.tmp 85), some (81, false)⟩,
              ⟨some 87, .pick (.tmp 81) (.val (.lit (.bool true))) (.tmp 86), none⟩,
              ⟨some 88, .val (.tmp 87), none⟩,
              ⟨some 89, .fieldAddr 3 (.tmp 6), some (88, false)⟩,
              ⟨some 90, .load false 1 (.tmp 89), some (88, false)⟩,
              ⟨some 91, .bin .gtr .num (.tmp 90) (.val (.lit (.int .i64 4096))), some (88, false)⟩,
              ⟨some 92, .pick (.tmp 88) (.val (.lit (.bool true))) (.tmp 91), none⟩,
              ⟨some 93, .val (.tmp 92), none⟩,
              ⟨some 94, .fieldAddr 4 (.tmp 6), some (93, false)⟩,
              ⟨some 95, .load false 1 (.tmp 94), some (93, false)⟩,
              ⟨some 96, .len 1 (.tmp 95), some (93, false)⟩,
              ⟨some 97, .bin .lss .num (.tmp 96) (.val (.lit (.int .i64 1))), some (93, false)⟩,
              ⟨some 98, .pick (.tmp 93) (.val (.lit (.bool true))) (.tmp 97), none⟩,
              ⟨some 99, .val (.tmp 98), none⟩,
              ⟨some 100, .fieldAddr 4 (.tmp 6), some (99, false)⟩,
              ⟨some 101, .load false 1 (.tmp 100), some (99, false)⟩,
              ⟨some 102, .len 1 (.tmp 101), some (99, false)⟩,
              ⟨some 103, .bin .gtr .num (.tmp 102) (.val (.lit (.int .i64 16384))), some (99, false)⟩,
              ⟨some 104, .pick (.tmp 99) (.val (.lit (.bool true))) (.tmp 103), none⟩]) (
           .cond (.tmp 104) (
             .seq (
              .ops [⟨some 2, .val (.val (.lit (.bool false))), none⟩]) (
             .ret)) (
             .skip))

def a_refMay_t : ACode :=
          .seq (
           .ops [⟨some 105, .fieldAddr 4 (.tmp 6), none⟩,
             ⟨some 106, .load false 1 (.tmp 105), none⟩,
             ⟨some 107, .fieldAddr 4 (.tmp 6), none⟩,
             ⟨some 108, .load false 1 (.tmp 107), none⟩,
             ⟨some 109, .len 1 (.tmp 108), none⟩,
             ⟨some 110, .bin .sub .num (.tmp 109) (.val (.lit (.int .i64 1))), none⟩,
             ⟨some 111, .indexAddr 6 (.tmp 106) (.tmp 110), none⟩,
             ⟨some 112, .fieldAddr 0 (.tmp 111), none⟩,
             ⟨some 113, .load false 1 (.tmp 112), none⟩,
             ⟨some 7, .val (.tmp 113), none⟩]) (
          .seq (
           .seq (
            .ops [⟨some 114, .val (.tmp 7), none⟩,
              ⟨some 115, .bin .neq .num (.tmp 114) (.val (.lit (.int .u8 11))), none⟩,
              ⟨some 116, .val (.tmp 115), none⟩,
              ⟨some 117, .val (.tmp 7), some (116, true)⟩,
              ⟨some 118, .bin .neq .num (.tmp 117) (.val (.lit (.int .u8 13))), some (116, true)⟩,
              ⟨some 119, .pick (.tmp 116) (.tmp 118) (.val (.lit (.bool false))), none⟩]) (
           .cond (.tmp 119) (
             .seq (
              .ops [⟨some 2, .val (.val (.lit (.bool false))), none⟩]) (
             .ret)) (
             .skip))) (
          .seq (
           .ops [⟨some 8, .val (.val (.lit (.int .i64 0))), none⟩]) (
          .block 4 (
            .loop a_bobbinref07_Mayb3))))

def a_bobbinref07_Mayb4 : ACode :=
       .seq (
        .seq (
         .ops [⟨some 47, .val (.tmp 5), none⟩,
           ⟨some 48, .fieldAddr 2 (.tmp 1), none⟩,
           ⟨some 49, .iload false 1 (.tmp 48), none⟩,
           ⟨some 50, .len 1 (.tmp 49), none⟩,
           ⟨some 51, .bin .lss .num (.tmp 47) (.tmp 50), none⟩]) (
        .cond (.tmp 51) (
          .skip) (
          .exit 2))) (
       .seq (
        .block 3 (
          .seq (
           .ops [⟨some 54, .fieldAddr 2 (.tmp 1), none⟩,
             ⟨some 55, .iload false 1 (.tmp 54), none⟩,
             ⟨some 56, .val (.tmp 5), none⟩,
             ⟨some 57, .indexAddr 5 (.tmp 55) (.tmp 56), none⟩,
             ⟨some 58, .load true 5 (.tmp 57), none⟩,
             ⟨some 6, .alloc [(.lit (.string ⟨#[]⟩)), (.lit (.bool false)), (.lit (.int .i64 0)), (.lit (.int .i64 0)), (.sl .nil 0 [])], none⟩,
             ⟨none, .store 5 (.tmp 6) (.tmp 58), none⟩]) (
          .seq (
           .ops [⟨some 59, .val (.tmp 3), none⟩,
             ⟨some 60, .fieldAddr 0 (.tmp 6), none⟩,
             ⟨some 61, .load false 1 (.tmp 60), none⟩,
             ⟨some 62, .bslice false 1 1 [(.lit (.string ⟨#[]⟩))] [(0, 1, (.tmp 61))], none⟩,
             ⟨some 63, .append false 1 16 (.tmp 59) (.tmp 62), none⟩,
             ⟨some 3, .val (.tmp 63), none⟩]) (
          .seq a_refMay_h a_refMay_t)))) (
       .ops [⟨some 52, .val (.tmp 5), none⟩,
         ⟨some 53, .bin .add .num (.tmp 52) (.val (.lit (.int .i64 1))), none⟩,
         ⟨some 5, .val (.tmp 53), none⟩]))

def a_bobbinref07_Mayb5 : ACode :=
       .seq (
        .seq (
         .ops [⟨some 11, .val (.tmp 4), none⟩,
           ⟨some 12, .fieldAddr 0 (.tmp 1), none⟩,
           ⟨some 13, .iload false 1 (.tmp 12), none⟩,
           ⟨some 14, .len 1 (.tmp 13), none⟩,
           ⟨some 15, .bin .lss .num (.tmp 11) (.tmp 14), none⟩]) (
        .cond (.tmp 15) (
          .skip) (
          .exit 0))) (
       .seq (
        .block 1 (
          .seq (
           .seq (
            .ops [⟨some 18, .fieldAddr 0 (.tmp 1), none⟩,
              ⟨some 19, .iload false 1 (.tmp 18), none⟩,
              ⟨some 20, .val (.tmp 4), none⟩,
              ⟨some 21, .indexAddr 3 (.tmp 19) (.tmp 20), none⟩,
              ⟨some 22, .fieldAddr 1 (.tmp 21), none⟩,
              ⟨some 23, .load false 1 (.tmp 22), none⟩,
              ⟨some 24, .bin .lss .num (.tmp 23) (.val (.lit (.int .i64 1))), none⟩,
              ⟨some 25, .val (.tmp 24), none⟩,
              ⟨some 26, .fieldAddr 0 (.tmp 1), some (25, false)⟩,
              ⟨some 27, .iload false 1 (.tmp 26), some (25, false)⟩,
              ⟨some 28, .val (.tmp 4), some (25, false)⟩,
              ⟨some 29, .indexAddr 3 (.tmp 27) (.tmp 28), some (25, false)⟩,
              ⟨some 30, .fieldAddr 1 (.tmp 29), some (25, false)⟩,
              ⟨some 31, .load false 1 (.tmp 30), some (25, false)⟩,
              ⟨some 32, .bin .gtr .num (.tmp 31) (.val (.lit (.int .i64 1024))), some (25, false)⟩,
              ⟨some 33, .pick (.tmp 25) (.val (.lit (.bool true))) (.tmp 32), none⟩]) (
           .cond (.tmp 33) (
             .seq (
              .ops [⟨some 2, .val (.val (.lit (.bool false))), none⟩]) (
             .ret)) (
             .skip))) (
          .ops [⟨some 34, .val (.tmp 3), none⟩,
            ⟨some 35, .fieldAddr 0 (.tmp 1), none⟩,
            ⟨some 36, .iload false 1 (.tmp 35), none⟩,
            ⟨some 37, .val (.tmp 4), none⟩,
            ⟨some 38, .indexAddr 3 (.tmp 36) (.tmp 37), none⟩,
            ⟨some 39, .fieldAddr 0 (.tmp 38), none⟩,
            ⟨some 40, .load false 1 (.tmp 39), none⟩,
            ⟨some 41, .bslice false 1 1 [(.lit (.string ⟨#[]⟩))] [(0, 1, (.tmp 40))], none⟩,
            ⟨some 42, .append false 1 16 (.tmp 34) (.tmp 41), none⟩,
            ⟨some 3, .val (.tmp 42), none⟩]))) (
       .ops [⟨some 16, .val (.tmp 4), none⟩,
         ⟨some 17, .bin .add .num (.tmp 16) (.val (.lit (.int .i64 1))), none⟩,
         ⟨some 4, .val (.tmp 17), none⟩]))

def a_bobbinref07_May : ACode :=
  .seq (
   .ops [⟨some 1, .box true (.tmp 0), none⟩,
     ⟨some 2, .val (.val (.lit (.bool false))), none⟩]) (
  .seq (
   .ops [⟨some 3, .val (.val (.sl .nil 0 [])), none⟩]) (
  .seq (
   .seq (
    .ops [⟨some 4, .val (.val (.lit (.int .i64 0))), none⟩]) (
   .block 0 (
     .loop a_bobbinref07_Mayb5))) (
  .seq (
   .ops [⟨some 43, .val (.tmp 3), none⟩,
     ⟨some 44, .fieldAddr 1 (.tmp 1), none⟩,
     ⟨some 45, .iload false 1 (.tmp 44), none⟩,
     ⟨some 46, .append false 1 16 (.tmp 43) (.tmp 45), none⟩,
     ⟨some 3, .val (.tmp 46), none⟩]) (
  .seq (
   .seq (
    .ops [⟨some 5, .val (.val (.lit (.int .i64 0))), none⟩]) (
   .block 2 (
     .loop a_bobbinref07_Mayb4))) (
  .seq (
   .seq (
    .ops [⟨some 136, .val (.tmp 3), none⟩,
      ⟨some 137, .len 1 (.tmp 136), none⟩,
      ⟨some 138, .bin .gtr .num (.tmp 137) (.val (.lit (.int .i64 256))), none⟩,
      ⟨some 139, .val (.tmp 138), none⟩,
      ⟨some 140, .iload true 3 (.tmp 1), some (139, false)⟩,
      ⟨some 141, .call (.val (.fn (.func 63) [] [])) [(.tmp 140)], some (139, false)⟩,
      ⟨some 142, .len 1 (.tmp 141), some (139, false)⟩,
      ⟨some 143, .bin .gtr .num (.tmp 142) (.val (.lit (.int .i64 16))), some (139, false)⟩,
      ⟨some 144, .pick (.tmp 139) (.val (.lit (.bool true))) (.tmp 143), none⟩]) (
   .cond (.tmp 144) (
     .seq (
      .ops [⟨some 2, .val (.val (.lit (.bool false))), none⟩]) (
     .ret)) (
     .skip))) (
  .seq (
   .seq (
    .ops [⟨some 9, .val (.val (.lit (.int .i64 0))), none⟩]) (
   .block 6 (
     .loop a_bobbinref07_Mayb2))) (
  .seq (
   .ops [⟨some 2, .val (.val (.lit (.bool true))), none⟩]) (
  .ret))))))))

theorem c_bobbinref07_May : codeOf Tryz.prog { bz := [1], il := [13, 19, 27, 36, 45, 49, 55, 127, 140] } 27 = some (a_bobbinref07_May, [.tmp 2], 171) := by kernel_rfl

/-- bobbin/bobbinref07.Threads -/
def a_bobbinref07_Threadsb1 : ACode :=
       .seq (
        .seq (
         .ops [⟨some 5, .val (.tmp 4), none⟩,
           ⟨some 6, .fieldAddr 2 (.tmp 1), none⟩,
           ⟨some 7, .iload false 1 (.tmp 6), none⟩,
           ⟨some 8, .len 1 (.tmp 7), none⟩,
           ⟨some 9, .bin .lss .num (.tmp 5) (.tmp 8), none⟩]) (
        .cond (.tmp 9) (
          .skip) (
          .exit 0))) (
       .seq (
        .block 1 (
          .seq (
           .ops [⟨some 12, .fieldAddr 2 (.tmp 1), none⟩,
             ⟨some 13, .iload false 1 (.tmp 12), none⟩,
             ⟨some 14, .val (.tmp 4), none⟩,
             ⟨some 15, .indexAddr 5 (.tmp 13) (.tmp 14), none⟩,
             ⟨some 16, .fieldAddr 1 (.tmp 15), none⟩,
             ⟨some 17, .load false 1 (.tmp 16), none⟩]) (
          .cond (.tmp 17) (
            .ops [⟨some 18, .val (.tmp 3), none⟩,
              ⟨some 19, .val (.tmp 4), none⟩,
              ⟨some 20, .bslice false 1 1 [(.lit (.int .i64 0))] [(0, 1, (.tmp 19))], none⟩,
              ⟨some 21, .append false 1 8 (.tmp 18) (.tmp 20), none⟩,
              ⟨some 3, .val (.tmp 21), none⟩]) (
            .skip)))) (
       .ops [⟨some 10, .val (.tmp 4), none⟩,
         ⟨some 11, .bin .add .num (.tmp 10) (.val (.lit (.int .i64 1))), none⟩,
         ⟨some 4, .val (.tmp 11), none⟩]))

def a_bobbinref07_Threads : ACode :=
  .seq (
   .ops [⟨some 1, .box true (.tmp 0), none⟩,
     ⟨some 2, .val (.val (.sl .nil 0 [])), none⟩]) (
  .seq (
   .ops [⟨some 3, .val (.val (.sl .nil 0 [])), none⟩]) (
  .seq (
   .seq (
    .ops [⟨some 4, .val (.val (.lit (.int .i64 0))), none⟩]) (
   .block 0 (
     .loop a_bobbinref07_Threadsb1))) (
  .seq (
   .ops [⟨some 22, .val (.tmp 3), none⟩,
     ⟨some 2, .val (.tmp 22), none⟩]) (
  .ret))))

theorem c_bobbinref07_Threads : codeOf Tryz.prog { bz := [1], il := [7, 13] } 63 = some (a_bobbinref07_Threads, [.tmp 2], 23) := by kernel_rfl

/-- bobbin/bobbinref07.Same -/
def a_bobbinref07_Sameb1 : ACode :=
              .seq (
               .seq (
                .ops [⟨some 124, .val (.tmp 10), none⟩,
                  ⟨some 125, .fieldAddr 4 (.tmp 8), none⟩,
                  ⟨some 126, .load false 1 (.tmp 125), none⟩,
                  ⟨some 127, .len 1 (.tmp 126), none⟩,
                  ⟨some 128, .bin .lss .num (.tmp 124) (.tmp 127), none⟩]) (
               .cond (.tmp 128) (
                 .skip) (
                 .exit 6))) (
              .seq (
               .block 7 (
                 .seq (
                  .ops [⟨some 131, .fieldAddr 4 (.tmp 8), none⟩,
                    ⟨some 133, .val (.tmp 10), none⟩,
                    ⟨some 136, .fieldAddr 4 (.tmp 9), none⟩,
                    ⟨some 138, .val (.tmp 10), none⟩,
                    ⟨some 132, .load false 1 (.tmp 131), none⟩,
                    ⟨some 134, .indexAddr 6 (.tmp 132) (.tmp 133), none⟩,
                    ⟨some 135, .load true 6 (.tmp 134), none⟩,
                    ⟨some 137, .load false 1 (.tmp 136), none⟩,
                    ⟨some 139, .indexAddr 6 (.tmp 137) (.tmp 138), none⟩,
                    ⟨some 140, .load true 6 (.tmp 139), none⟩,
                    ⟨some 141, .call (.val (.fn (.func 65) [] [])) [(.tmp 135), (.tmp 140)], none⟩,
                    ⟨some 142, .un .not (.tmp 141), none⟩]) (
                 .cond (.tmp 142) (
                   .seq (
                    .ops [⟨some 4, .val (.val (.lit (.bool false))), none⟩]) (
                   .ret)) (
                   .skip)))) (
              .ops [⟨some 129, .val (.tmp 10), none⟩,
                ⟨some 130, .bin .add .num (.tmp 129) (.val (.lit (.int .i64 1))), none⟩,
                ⟨some 10, .val (.tmp 130), none⟩]))

def a_refSame_h : ACode :=
           .seq (
            .ops [⟨some 89, .fieldAddr 0 (.tmp 8), none⟩,
              ⟨some 90, .load false 1 (.tmp 89), none⟩,
              ⟨some 91, .fieldAddr 0 (.tmp 9), none⟩,
              ⟨some 92, .load false 1 (.tmp 91), none⟩,
              ⟨some 93, .bin .neq .num (.tmp 90) (.tmp 92), none⟩,
              ⟨some 94, .val (.tmp 93), none⟩,
              ⟨some 95, .fieldAddr 1 (.tmp 8), some (94, false)⟩,
              ⟨some 96, .load false 1 (.tmp 95), some (94, false)⟩,
              ⟨some 97, .fieldAddr 1 (.tmp 9), some (94, false)⟩,
              ⟨some 98, .load false 1 (.tmp 97), some (94, false)⟩,
              ⟨some 99, .bin .neq .bool (.tmp 96) (.tmp 98), some (94, false)⟩,
              ⟨some 100, .pick (.tmp 94) (.val (.lit (.bool true))) (.tmp 99), none⟩,
              ⟨some 101, .val (.tmp 100), none⟩,
              ⟨some 102, .fieldAddr 2 (.tmp 8), some (101, false)⟩,
              ⟨some 103, .load false 1 (.tmp 102), some (101, false)⟩,
              ⟨some 104, .fieldAddr 2 (.tmp 9), some (101, false)⟩,
              ⟨some 105, .load false 1 (.tmp 104), some (101, false)⟩,
              ⟨some 106, .bin .neq .num (.tmp 103) (.tmp 105), some (101, false)⟩,
              ⟨some 107, .pick (.tmp 101) (.val (.lit (.bool true))) (.tmp 106), none⟩,
              ⟨some 108, .val (.tmp 107), none⟩,
              ⟨some 109, .fieldAddr 3 (.tmp 8), some (108, false)⟩,
              ⟨some 110, .load false 1 (.tmp 109), some (108, false)⟩,
              ⟨some 111, .fieldAddr 3 (.tmp 9), some (108, false)⟩,
              ⟨some 112, .load false 1 (.tmp 111), some (108, false)⟩,
              ⟨some 113, .bin .neq .num (.tmp 110) (.tmp 112), some (108, false)⟩,
              ⟨some 114, .pick (.tmp 108) (.val (.lit (.bool true))) (.tmp 113), none⟩,
              ⟨some 115, .val (.tmp 114), none⟩,
              ⟨some 116, .fieldAddr 4 (.tmp 8), some (115, false)⟩,
              ⟨some 117, .load false 1 (.tmp 116), some (115, false)⟩,
              ⟨some 118, .len 1 (.tmp 117), some (115, false)⟩,
              ⟨some 119, .fieldAddr 4 (.tmp 9), some (115, false)⟩,
              ⟨some 120, .load false 1 (.tmp 119), some (115, false)⟩,
              ⟨some 121, .len 1 (.tmp 120), some (115, false)⟩,
              ⟨some 122, .bin .neq .num (.tmp 118) (.tmp 121), some (115, false)⟩,
              ⟨some 123, .pick (.tmp 115) (.val (.lit (.bool true))) (.tmp 122), none⟩]) (
           .cond (.tmp 123) (
             .seq (
              .ops [⟨some 4, .val (.val (.lit (.bool false))), none⟩]) (
             .ret)) (
             .skip))

def a_bobbinref07_Sameb2 : ACode :=
       .seq (
        .seq (
         .ops [⟨some 72, .val (.tmp 7), none⟩,
           ⟨some 73, .fieldAddr 2 (.tmp 2), none⟩,
           ⟨some 74, .iload false 1 (.tmp 73), none⟩,
           ⟨some 75, .len 1 (.tmp 74), none⟩,
           ⟨some 76, .bin .lss .num (.tmp 72) (.tmp 75), none⟩]) (
        .cond (.tmp 76) (
          .skip) (
          .exit 4))) (
       .seq (
        .block 5 (
          .seq (
           .ops [⟨some 79, .fieldAddr 2 (.tmp 2), none⟩,
             ⟨some 80, .iload false 1 (.tmp 79), none⟩,
             ⟨some 81, .val (.tmp 7), none⟩,
             ⟨some 82, .indexAddr 5 (.tmp 80) (.tmp 81), none⟩,
             ⟨some 83, .load true 5 (.tmp 82), none⟩,
             ⟨some 8, .alloc [(.lit (.string ⟨#[]⟩)), (.lit (.bool false)), (.lit (.int .i64 0)), (.lit (.int .i64 0)), (.sl .nil 0 [])], none⟩,
             ⟨none, .store 5 (.tmp 8) (.tmp 83), none⟩]) (
          .seq (
           .ops [⟨some 84, .fieldAddr 2 (.tmp 3), none⟩,
             ⟨some 85, .iload false 1 (.tmp 84), none⟩,
             ⟨some 86, .val (.tmp 7), none⟩,
             ⟨some 87, .indexAddr 5 (.tmp 85) (.tmp 86), none⟩,
             ⟨some 88, .load true 5 (.tmp 87), none⟩,
             ⟨some 9, .alloc [(.lit (.string ⟨#[]⟩)), (.lit (.bool false)), (.lit (.int .i64 0)), (.lit (.int .i64 0)), (.sl .nil 0 [])], none⟩,
             ⟨none, .store 5 (.tmp 9) (.tmp 88), none⟩]) (
          .seq a_refSame_h (
          .seq (
           .ops [⟨some 10, .val (.val (.lit (.int .i64 0))), none⟩]) (
          .block 6 (
            .loop a_bobbinref07_Sameb1))))))) (
       .ops [⟨some 77, .val (.tmp 7), none⟩,
         ⟨some 78, .bin .add .num (.tmp 77) (.val (.lit (.int .i64 1))), none⟩,
         ⟨some 7, .val (.tmp 78), none⟩]))

def a_bobbinref07_Sameb3 : ACode :=
       .seq (
        .seq (
         .ops [⟨some 54, .val (.tmp 6), none⟩,
           ⟨some 55, .fieldAddr 1 (.tmp 2), none⟩,
           ⟨some 56, .iload false 1 (.tmp 55), none⟩,
           ⟨some 57, .len 1 (.tmp 56), none⟩,
           ⟨some 58, .bin .lss .num (.tmp 54) (.tmp 57), none⟩]) (
        .cond (.tmp 58) (
          .skip) (
          .exit 2))) (
       .seq (
        .block 3 (
          .seq (
           .ops [⟨some 61, .fieldAddr 1 (.tmp 2), none⟩,
             ⟨some 62, .iload false 1 (.tmp 61), none⟩,
             ⟨some 63, .val (.tmp 6), none⟩,
             ⟨some 64, .indexAddr 1 (.tmp 62) (.tmp 63), none⟩,
             ⟨some 66, .fieldAddr 1 (.tmp 3), none⟩,
             ⟨some 67, .iload false 1 (.tmp 66), none⟩,
             ⟨some 68, .val (.tmp 6), none⟩,
             ⟨some 69, .indexAddr 1 (.tmp 67) (.tmp 68), none⟩,
             ⟨some 65, .load false 1 (.tmp 64), none⟩,
             ⟨some 70, .load false 1 (.tmp 69), none⟩,
             ⟨some 71, .bin .neq .num (.tmp 65) (.tmp 70), none⟩]) (
          .cond (.tmp 71) (
            .seq (
             .ops [⟨some 4, .val (.val (.lit (.bool false))), none⟩]) (
            .ret)) (
            .skip)))) (
       .ops [⟨some 59, .val (.tmp 6), none⟩,
         ⟨some 60, .bin .add .num (.tmp 59) (.val (.lit (.int .i64 1))), none⟩,
         ⟨some 6, .val (.tmp 60), none⟩]))

def a_bobbinref07_Sameb4 : ACode :=
       .seq (
        .seq (
         .ops [⟨some 36, .val (.tmp 5), none⟩,
           ⟨some 37, .fieldAddr 0 (.tmp 2), none⟩,
           ⟨some 38, .iload false 1 (.tmp 37), none⟩,
           ⟨some 39, .len 1 (.tmp 38), none⟩,
           ⟨some 40, .bin .lss .num (.tmp 36) (.tmp 39), none⟩]) (
        .cond (.tmp 40) (
          .skip) (
          .exit 0))) (
       .seq (
        .block 1 (
          .seq (
           .ops [⟨some 43, .fieldAddr 0 (.tmp 2), none⟩,
             ⟨some 44, .iload false 1 (.tmp 43), none⟩,
             ⟨some 45, .val (.tmp 5), none⟩,
             ⟨some 46, .indexAddr 3 (.tmp 44) (.tmp 45), none⟩,
             ⟨some 48, .fieldAddr 0 (.tmp 3), none⟩,
             ⟨some 49, .iload false 1 (.tmp 48), none⟩,
             ⟨some 50, .val (.tmp 5), none⟩,
             ⟨some 51, .indexAddr 3 (.tmp 49) (.tmp 50), none⟩,
             ⟨some 47, .load true 3 (.tmp 46), none⟩,
             ⟨some 52, .load true 3 (.tmp 51), none⟩,
             ⟨some 53, .eqS true [(0, 1), (1, 0), (2, 0)] (.tmp 47) (.tmp 52), none⟩]) (
          .cond (.tmp 53) (
            .seq (
             .ops [⟨some 4, .val (.val (.lit (.bool false))), none⟩]) (
            .ret)) (
            .skip)))) (
       .ops [⟨some 41, .val (.tmp 5), none⟩,
         ⟨some 42, .bin .add .num (.tmp 41) (.val (.lit (.int .i64 1))), none⟩,
         ⟨some 5, .val (.tmp 42), none⟩]))

def a_bobbinref07_Same : ACode :=
  .seq (
   .ops [⟨some 2, .box true (.tmp 0), none⟩,
     ⟨some 3, .box true (.tmp 1), none⟩,
     ⟨some 4, .val (.val (.lit (.bool false))), none⟩]) (
  .seq (
   .seq (
    .ops [⟨some 11, .fieldAddr 0 (.tmp 2), none⟩,
      ⟨some 12, .iload false 1 (.tmp 11), none⟩,
      ⟨some 13, .len 1 (.tmp 12), none⟩,
      ⟨some 14, .fieldAddr 0 (.tmp 3), none⟩,
      ⟨some 15, .iload false 1 (.tmp 14), none⟩,
      ⟨some 16, .len 1 (.tmp 15), none⟩,
      ⟨some 17, .bin .neq .num (.tmp 13) (.tmp 16), none⟩,
      ⟨some 18, .val (.tmp 17), none⟩,
      ⟨some 19, .fieldAddr 1 (.tmp 2), some (18, false)⟩,
      ⟨some 20, .iload false 1 (.tmp 19), some (18, false)⟩,
      ⟨some 21, .len 1 (.tmp 20), some (18, false)⟩,
      ⟨some 22, .fieldAddr 1 (.tmp 3), some (18, false)⟩,
      ⟨some 23, .iload false 1 (.tmp 22), some (18, false)⟩,
      ⟨some 24, .len 1 (.tmp 23), some (18, false)⟩,
      ⟨some 25, .bin .neq .num (.tmp 21) (.tmp 24), some (18, false)⟩,
      ⟨some 26, .pick (.tmp 18) (.val (.lit (.bool true))) (.tmp 25), none⟩,
      ⟨some 27, .val (.tmp 26), none⟩,
      ⟨some 28, .fieldAddr 2 (.tmp 2), some (27, false)⟩,
      ⟨some 29, .iload false 1 (.tmp 28), some (27, false)⟩,
      ⟨some 30, .len 1 (.tmp 29), some (27, false)⟩,
      ⟨some 31, .fieldAddr 2 (.tmp 3), some (27, false)⟩,
      ⟨some 32, .iload false 1 (.tmp 31), some (27, false)⟩,
      ⟨some 33, .len 1 (.tmp 32), some (27, false)⟩,
      ⟨some 34, .bin .neq .num (.tmp 30) (.tmp 33), some (27, false)⟩,
      ⟨some 35, .pick (.tmp 27) (.val (.lit (.bool true))) (.tmp 34), none⟩]) (
   .cond (.tmp 35) (
     .seq (
      .ops [⟨some 4, .val (.val (.lit (.bool false))), none⟩]) (
     .ret)) (
     .skip))) (
  .seq (
   .seq (
    .ops [⟨some 5, .val (.val (.lit (.int .i64 0))), none⟩]) (
   .block 0 (
     .loop a_bobbinref07_Sameb4))) (
  .seq (
   .seq (
    .ops [⟨some 6, .val (.val (.lit (.int .i64 0))), none⟩]) (
   .block 2 (
     .loop a_bobbinref07_Sameb3))) (
  .seq (
   .seq (
    .ops [⟨some 7, .val (.val (.lit (.int .i64 0))), none⟩]) (
   .block 4 (
     .loop a_bobbinref07_Sameb2))) (
  .seq (
   .ops [⟨some 4, .val (.val (.lit (.bool true))), none⟩]) (
  .ret))))))

theorem c_bobbinref07_Same : codeOf Tryz.prog { bz := [2, 3], il := [12, 15, 20, 23, 29, 32, 38, 44, 49, 56, 62, 67, 74, 80, 85] } 35 = some (a_bobbinref07_Same, [.tmp 4], 143) := by kernel_rfl

end Go.Proofs.YtefejpckppabpaaGreatDoor
