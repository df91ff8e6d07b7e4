/- The code of functions, compiled (printed by wip/tools/kp.py). -/
import Derived.Test.YtebopfpgicamiaaDoorProg
import Derived.Test.YtebopfpgicamiaaDoorM3
namespace Go.Proofs.YtebopfpgicamiaaDoor
set_option linter.unusedSimpArgs false
set_option linter.unusedVariables false
open Go Go.Fw
/-- bobbin/tree.Name -/
def a_tree_Name : ACode :=
  .seq (
   .ops [⟨some 2, .val (.val (.lit (.bool false))), none⟩]) (
  .seq (
   .seq (
    .ops [⟨some 3, .val (.tmp 0), none⟩,
      ⟨some 4, .bin .eql .num (.tmp 3) (.val (.lit (.string ⟨#[]⟩))), none⟩,
      ⟨some 5, .val (.tmp 4), none⟩,
      ⟨some 6, .val (.tmp 0), some (5, false)⟩,
      ⟨some 7, .len 0 (.tmp 6), some (5, false)⟩,
      ⟨some 8, .bin .gtr .num (.tmp 7) (.val (.lit (.int .i64 32))), some (5, false)⟩,
      ⟨some 9, .pick (.tmp 5) (.val (.lit (.bool true))) (.tmp 8), none⟩,
      ⟨some 10, .val (.tmp 9), none⟩,
      ⟨some 11, .sliceA 1 15 (.glob 1) none none, some (10, false)⟩,
      ⟨some 12, .val (.tmp 0), some (10, false)⟩,
      ⟨some 13, .call (.val (.fn (.func 46) [] [])) [(.tmp 11), (.tmp 12)], some (10, false)⟩,
      ⟨some 14, .pick (.tmp 10) (.val (.lit (.bool true))) (.tmp 13), none⟩,
      ⟨some 15, .val (.tmp 14), none⟩,
      ⟨some 16, .val (.tmp 0), some (15, false)⟩,
      ⟨some 17, .indexStr (.tmp 16) (.val (.lit (.int .i64 0))), some (15, false)⟩,
      ⟨some 18, .bin .geq .num (.tmp 17) (.val (.lit (.int .u8 48))), some (15, false)⟩,
      ⟨some 19, .val (.tmp 18), some (15, false)⟩,
      ⟨some 20, .val (.tmp 0), some (19, true)⟩,
      ⟨some 21, .indexStr (.tmp 20) (.val (.lit (.int .i64 0))), some (19, true)⟩,
      ⟨some 22, .bin .leq .num (.tmp 21) (.val (.lit (.int .u8 57))), some (19, true)⟩,
      ⟨some 23, .pick (.tmp 19) (.tmp 22) (.val (.lit (.bool false))), some (15, false)⟩,
      ⟨some 24, .pick (.tmp 15) (.val (.lit (.bool true))) (.tmp 23), none⟩]) (
   .cond (.tmp 24) (
     .seq (
      .ops [⟨some 2, .val (.val (.lit (.bool false))), none⟩]) (
     .ret)) (
     .skip))) (
  .seq (
   .ops [⟨some 25, .val (.tmp 0), none⟩,
     ⟨some 26, .call (.val (.fn (.func 47) [] [])) [(.tmp 25), (.val (.lit (.string ⟨#[97, 98, 99, 100, 101, 102, 103, 104, 105, 106, 107, 108, 109, 110, 111, 112, 113, 114, 115, 116, 117, 118, 119, 120, 121, 122, 65, 66, 67, 68, 69, 70, 71, 72, 73, 74, 75, 76, 77, 78, 79, 80, 81, 82, 83, 84, 85, 86, 87, 88, 89, 90, 95, 48, 49, 50, 51, 52, 53, 54, 55, 56, 57]⟩)))], none⟩,
     ⟨some 27, .bin .eql .num (.tmp 26) (.val (.lit (.string ⟨#[]⟩))), none⟩,
     ⟨some 2, .val (.tmp 27), none⟩]) (
  .ret)))

theorem c_tree_Name : codeOf Tryd.prog {  } 23 = some (a_tree_Name, [.tmp 2], 28) := by kernel_rfl

/-- slices.Contains[[]string,string] -/
def a_slices_Contains_string_string : ACode :=
  .seq (
   .ops [⟨some 4, .val (.val (.lit (.bool false))), none⟩]) (
  .seq (
   .ops [⟨some 5, .val (.tmp 0), none⟩,
     ⟨some 6, .val (.tmp 1), none⟩,
     ⟨some 7, .call (.val (.fn (.func 64) [] [])) [(.tmp 5), (.tmp 6)], none⟩,
     ⟨some 8, .bin .geq .num (.tmp 7) (.val (.lit (.int .i64 0))), none⟩,
     ⟨some 4, .val (.tmp 8), none⟩]) (
  .ret))

theorem c_slices_Contains_string_string : codeOf Tryd.prog {  } 46 = some (a_slices_Contains_string_string, [.tmp 4], 9) := by kernel_rfl

/-- slices.Index[[]string,string] -/
def a_slices_Index_string_stringb1 : ACode :=
       .seq (
        .ops [⟨some 9, .bin .lss .num (.tmp 8) (.tmp 7), none⟩]) (
       .seq (
        .cond (.tmp 9) (
          .skip) (
          .exit 0)) (
       .seq (
        .block 1 (
          .seq (
           .ops [⟨some 10, .val (.tmp 8), none⟩,
             ⟨some 5, .val (.tmp 10), none⟩]) (
          .seq (
           .ops [⟨some 11, .val (.tmp 1), none⟩,
             ⟨some 12, .val (.tmp 0), none⟩,
             ⟨some 13, .val (.tmp 5), none⟩,
             ⟨some 14, .indexAddr 1 (.tmp 12) (.tmp 13), none⟩,
             ⟨some 15, .load false 1 (.tmp 14), none⟩,
             ⟨some 16, .bin .eql .num (.tmp 11) (.tmp 15), none⟩]) (
          .cond (.tmp 16) (
            .seq (
             .ops [⟨some 17, .val (.tmp 5), none⟩,
               ⟨some 4, .val (.tmp 17), none⟩]) (
            .ret)) (
            .skip))))) (
       .ops [⟨some 18, .bin .add .num (.tmp 8) (.val (.lit (.int .i64 1))), none⟩,
         ⟨some 8, .val (.tmp 18), none⟩])))

def a_slices_Index_string_string : ACode :=
  .seq (
   .ops [⟨some 4, .val (.val (.lit (.int .i64 0))), none⟩]) (
  .seq (
   .seq (
    .ops [⟨some 6, .val (.tmp 0), none⟩,
      ⟨some 7, .len 1 (.tmp 6), none⟩,
      ⟨some 8, .val (.val (.lit (.int .i64 0))), none⟩]) (
   .block 0 (
     .loop a_slices_Index_string_stringb1))) (
  .seq (
   .ops [⟨some 4, .val (.val (.lit (.int .i64 (-1)))), none⟩]) (
  .ret)))

theorem c_slices_Index_string_string : codeOf Tryd.prog {  } 64 = some (a_slices_Index_string_string, [.tmp 4], 19) := by kernel_rfl

/-- bobbin/bobbinref02.Name -/
def a_bobbinref02_Nameb1 : ACode :=
       .seq (
        .seq (
         .ops [⟨some 17, .val (.tmp 3), none⟩,
           ⟨some 18, .val (.tmp 0), none⟩,
           ⟨some 19, .len 0 (.tmp 18), none⟩,
           ⟨some 20, .bin .lss .num (.tmp 17) (.tmp 19), none⟩]) (
        .cond (.tmp 20) (
          .skip) (
          .exit 0))) (
       .seq (
        .block 1 (
          .seq (
           .ops [⟨some 23, .val (.tmp 0), none⟩,
             ⟨some 24, .val (.tmp 3), none⟩,
             ⟨some 25, .indexStr (.tmp 23) (.tmp 24), none⟩,
             ⟨some 4, .val (.tmp 25), none⟩]) (
          .seq (
           .ops [⟨some 26, .val (.tmp 4), none⟩,
             ⟨some 27, .bin .geq .num (.tmp 26) (.val (.lit (.int .u8 97))), none⟩,
             ⟨some 28, .val (.tmp 27), none⟩,
             ⟨some 29, .val (.tmp 4), some (28, true)⟩,
             ⟨some 30, .bin .leq .num (.tmp 29) (.val (.lit (.int .u8 122))), some (28, true)⟩,
             ⟨some 31, .pick (.tmp 28) (.tmp 30) (.val (.lit (.bool false))), none⟩,
             ⟨some 32, .val (.tmp 31), none⟩,
             ⟨some 33, .val (.tmp 4), some (32, false)⟩,
             ⟨some 34, .bin .geq .num (.tmp 33) (.val (.lit (.int .u8 65))), some (32, false)⟩,
             ⟨some 35, .val (.tmp 34), some (32, false)⟩,
             ⟨some 36, .val (.tmp 4), some (35, true)⟩,
             ⟨some 37, .bin .leq .num (.tmp 36) (.val (.lit (.int .u8 90))), some (35, true)⟩,
             ⟨some 38, .pick (.tmp 35) (.tmp 37) (.val (.lit (.bool false))), some (32, false)⟩,
             ⟨some 39, .pick (.tmp 32) (.val (.lit (.bool true))) (.tmp 38), none⟩,
             ⟨some 40, .val (.tmp 39), none⟩,
             ⟨some 41, .val (.tmp 4), some (40, false)⟩,
             ⟨some 42, .bin .eql .num (.tmp 41) (.val (.lit (.int .u8 95))), some (40, false)⟩,
             ⟨some 43, .pick (.tmp 40) (.val (.lit (.bool true))) (.tmp 42), none⟩,
             ⟨some 5, .val (.tmp 43), none⟩]) (
          .seq (
           .ops [⟨some 44, .val (.tmp 5), none⟩,
             ⟨some 45, .un .not (.tmp 44), none⟩,
             ⟨some 46, .val (.tmp 45), none⟩,
             ⟨some 47, .val (.tmp 3), some (46, true)⟩,
             ⟨some 48, .bin .eql .num (.tmp 47) (.val (.lit (.int .i64 0))), some (46, true)⟩,
             ⟨some 49, .val (.tmp 48), some (46, true)⟩,
             ⟨some 50, .val (.tmp 4), some (49, false)⟩,
             ⟨some 51, .bin .lss .num (.tmp 50) (.val (.lit (.int .u8 48))), some (49, false)⟩,
             ⟨some 52, .pick (.tmp 49) (.val (.lit (.bool true))) (.tmp 51), some (46, true)⟩,
             ⟨some 53, .val (.tmp 52), some (46, true)⟩,
             ⟨some 54, .val (.tmp 4), some (53, false)⟩,
             ⟨some 55, .bin .gtr .num (.tmp 54) (.val (.lit (.int .u8 57))), some (53, false)⟩,
             ⟨some 56, .pick (.tmp 53) (.val (.lit (.bool true))) (.tmp 55), some (46, true)⟩,
             ⟨some 57, .pick (.tmp 46) (.tmp 56) (.val (.lit (.bool false))), none⟩]) (
          .cond (.tmp 57) (
            .seq (
             .ops [⟨some 2, .val (.val (.lit (.bool false))), none⟩]) (
            .ret)) (
            .skip)))))) (
       .ops [⟨some 21, .val (.tmp 3), none⟩,
         ⟨some 22, .bin .add .num (.tmp 21) (.val (.lit (.int .i64 1))), none⟩,
         ⟨some 3, .val (.tmp 22), none⟩]))

def a_bobbinref02_Name : ACode :=
  .seq (
   .ops [⟨some 2, .val (.val (.lit (.bool false))), none⟩]) (
  .seq (
   .seq (
    .ops [⟨some 6, .val (.tmp 0), none⟩,
      ⟨some 7, .bin .eql .num (.tmp 6) (.val (.lit (.string ⟨#[]⟩))), none⟩,
      ⟨some 8, .val (.tmp 7), none⟩,
      ⟨some 9, .val (.tmp 0), some (8, false)⟩,
      ⟨some 10, .len 0 (.tmp 9), some (8, false)⟩,
      ⟨some 11, .bin .gtr .num (.tmp 10) (.val (.lit (.int .i64 32))), some (8, false)⟩,
      ⟨some 12, .pick (.tmp 8) (.val (.lit (.bool true))) (.tmp 11), none⟩,
      ⟨some 13, .val (.tmp 12), none⟩,
      ⟨some 14, .val (.tmp 0), some (13, false)⟩,
      ⟨some 15, .call (.val (.fn (.func 48) [] [])) [(.tmp 14)], some (13, false)⟩,
      ⟨some 16, .pick (.tmp 13) (.val (.lit (.bool true))) (.tmp 15), none⟩]) (
   .cond (.tmp 16) (
     .seq (
      .ops [⟨some 2, .val (.val (.lit (.bool false))), none⟩]) (
     .ret)) (
     .skip))) (
  .seq (
   .seq (
    .ops [⟨some 3, .val (.val (.lit (.int .i64 0))), none⟩]) (
   .block 0 (
     .loop a_bobbinref02_Nameb1))) (
  .seq (
   .ops [⟨some 2, .val (.val (.lit (.bool true))), none⟩]) (
  .ret))))

theorem c_bobbinref02_Name : codeOf Tryd.prog {  } 24 = some (a_bobbinref02_Name, [.tmp 2], 58) := by kernel_rfl

/-- bobbin/bobbinref02.Reserved -/
def a_bobbinref02_Reservedb1 : ACode :=
       .seq (
        .ops [⟨some 8, .bin .lss .num (.tmp 7) (.tmp 6), none⟩]) (
       .seq (
        .cond (.tmp 8) (
          .skip) (
          .exit 0)) (
       .seq (
        .block 1 (
          .seq (
           .ops [⟨some 9, .indexAddr 1 (.tmp 5) (.tmp 7), none⟩,
             ⟨some 10, .load false 1 (.tmp 9), none⟩,
             ⟨some 4, .val (.tmp 10), none⟩]) (
          .seq (
           .ops [⟨some 11, .val (.tmp 0), none⟩,
             ⟨some 12, .val (.tmp 4), none⟩,
             ⟨some 13, .bin .eql .num (.tmp 11) (.tmp 12), none⟩]) (
          .cond (.tmp 13) (
            .seq (
             .ops [⟨some 2, .val (.val (.lit (.bool true))), none⟩]) (
            .ret)) (
            .skip))))) (
       .ops [⟨some 14, .bin .add .num (.tmp 7) (.val (.lit (.int .i64 1))), none⟩,
         ⟨some 7, .val (.tmp 14), none⟩])))

def a_bobbinref02_Reserved : ACode :=
  .seq (
   .ops [⟨some 2, .val (.val (.lit (.bool false))), none⟩]) (
  .seq (
   .seq (
    .ops [⟨some 5, .bslice false 1 15 [(.lit (.string ⟨#[]⟩)), (.lit (.string ⟨#[]⟩)), (.lit (.string ⟨#[]⟩)), (.lit (.string ⟨#[]⟩)), (.lit (.string ⟨#[]⟩)), (.lit (.string ⟨#[]⟩)), (.lit (.string ⟨#[]⟩)), (.lit (.string ⟨#[]⟩)), (.lit (.string ⟨#[]⟩)), (.lit (.string ⟨#[]⟩)), (.lit (.string ⟨#[]⟩)), (.lit (.string ⟨#[]⟩)), (.lit (.string ⟨#[]⟩)), (.lit (.string ⟨#[]⟩)), (.lit (.string ⟨#[]⟩))] [(0, 1, (.val (.lit (.string ⟨#[103, 108, 111, 98, 97, 108]⟩)))), (1, 1, (.val (.lit (.string ⟨#[97, 114, 114, 97, 121]⟩)))), (2, 1, (.val (.lit (.string ⟨#[108, 111, 99, 107]⟩)))), (3, 1, (.val (.lit (.string ⟨#[102, 117, 110, 99]⟩)))), (4, 1, (.val (.lit (.string ⟨#[116, 104, 114, 101, 97, 100]⟩)))), (5, 1, (.val (.lit (.string ⟨#[118, 97, 114]⟩)))), (6, 1, (.val (.lit (.string ⟨#[105, 102]⟩)))), (7, 1, (.val (.lit (.string ⟨#[101, 108, 115, 101]⟩)))), (8, 1, (.val (.lit (.string ⟨#[119, 104, 105, 108, 101]⟩)))), (9, 1, (.val (.lit (.string ⟨#[119, 105, 116, 104]⟩)))), (10, 1, (.val (.lit (.string ⟨#[112, 114, 105, 110, 116]⟩)))), (11, 1, (.val (.lit (.string ⟨#[99, 97, 108, 108]⟩)))), (12, 1, (.val (.lit (.string ⟨#[114, 101, 116, 117, 114, 110]⟩)))), (13, 1, (.val (.lit (.string ⟨#[116, 114, 117, 101]⟩)))), (14, 1, (.val (.lit (.string ⟨#[102, 97, 108, 115, 101]⟩))))], none⟩,
      ⟨some 6, .len 1 (.tmp 5), none⟩,
      ⟨some 7, .val (.val (.lit (.int .i64 0))), none⟩]) (
   .block 0 (
     .loop a_bobbinref02_Reservedb1))) (
  .seq (
   .ops [⟨some 2, .val (.val (.lit (.bool false))), none⟩]) (
  .ret)))

theorem c_bobbinref02_Reserved : codeOf Tryd.prog {  } 48 = some (a_bobbinref02_Reserved, [.tmp 2], 15) := by kernel_rfl

/-- bobbin/tree.some -/
def a_tree_some : ACode :=
  .seq (
   .ops [⟨some 4, .val (.val (.lit (.bool false))), none⟩]) (
  .seq (
   .ops [⟨some 5, .val (.tmp 1), none⟩,
     ⟨some 6, .val (.tmp 5), none⟩,
     ⟨some 7, .val (.tmp 0), some (6, true)⟩,
     ⟨some 8, .call (.val (.fn (.func 23) [] [])) [(.tmp 7)], some (6, true)⟩,
     ⟨some 9, .pick (.tmp 6) (.tmp 8) (.val (.lit (.bool false))), none⟩,
     ⟨some 10, .val (.tmp 9), none⟩,
     ⟨some 11, .val (.tmp 1), some (10, false)⟩,
     ⟨some 12, .un .not (.tmp 11), some (10, false)⟩,
     ⟨some 13, .val (.tmp 12), some (10, false)⟩,
     ⟨some 14, .val (.tmp 0), some (13, true)⟩,
     ⟨some 15, .bin .eql .num (.tmp 14) (.val (.lit (.string ⟨#[]⟩))), some (13, true)⟩,
     ⟨some 16, .pick (.tmp 13) (.tmp 15) (.val (.lit (.bool false))), some (10, false)⟩,
     ⟨some 17, .pick (.tmp 10) (.val (.lit (.bool true))) (.tmp 16), none⟩,
     ⟨some 4, .val (.tmp 17), none⟩]) (
  .ret))

theorem c_tree_some : codeOf Tryd.prog {  } 41 = some (a_tree_some, [.tmp 4], 18) := by kernel_rfl

/-- bobbin/tree.MayExpr -/
def a_tree_MayExpr : ACode :=
  .seq (
   .ops [⟨some 1, .box true (.tmp 0), none⟩,
     ⟨some 2, .val (.val (.lit (.bool false))), none⟩]) (
  .seq (
   .seq (
    .ops [⟨some 4, .fieldAddr 0 (.tmp 1), none⟩,
      ⟨some 5, .iload false 1 (.tmp 4), none⟩,
      ⟨some 6, .conv .i64 (.tmp 5), none⟩,
      ⟨some 7, .bin .geq .num (.tmp 6) (.val (.lit (.int .i64 18))), none⟩,
      ⟨some 8, .val (.tmp 7), none⟩,
      ⟨some 9, .fieldAddr 0 (.tmp 1), some (8, false)⟩,
      ⟨some 10, .iload false 1 (.tmp 9), some (8, false)⟩,
      ⟨some 11, .bin .lss .num (.tmp 10) (.val (.lit (.int .u8 1))), some (8, false)⟩,
      ⟨some 12, .pick (.tmp 8) (.val (.lit (.bool true))) (.tmp 11), none⟩]) (
   .cond (.tmp 12) (
     .seq (
      .ops [⟨some 2, .val (.val (.lit (.bool false))), none⟩]) (
     .ret)) (
     .skip))) (
  .seq (
   .ops [⟨some 13, .fieldAddr 0 (.tmp 1), none⟩,
     ⟨some 14, .iload false 1 (.tmp 13), none⟩,
     ⟨some 15, .indexP 3 18 (.glob 0) (.tmp 14), none⟩,
     ⟨some 16, .iload true 3 (.tmp 15), none⟩,
     ⟨some 3, .alloc [(.lit (.int .i64 0)), (.lit (.bool false)), (.lit (.int .i64 0))], none⟩,
     ⟨none, .store 3 (.tmp 3) (.tmp 16), none⟩]) (
  .seq (
   .ops [⟨some 17, .fieldAddr 3 (.tmp 1), none⟩,
     ⟨some 18, .iload false 1 (.tmp 17), none⟩,
     ⟨some 19, .len 1 (.tmp 18), none⟩,
     ⟨some 20, .fieldAddr 0 (.tmp 3), none⟩,
     ⟨some 21, .load false 1 (.tmp 20), none⟩,
     ⟨some 22, .bin .eql .num (.tmp 19) (.tmp 21), none⟩,
     ⟨some 23, .val (.tmp 22), none⟩,
     ⟨some 24, .fieldAddr 2 (.tmp 1), some (23, true)⟩,
     ⟨some 25, .iload false 1 (.tmp 24), some (23, true)⟩,
     ⟨some 26, .bin .geq .num (.tmp 25) (.val (.lit (.int .i64 0))), some (23, true)⟩,
     ⟨some 27, .pick (.tmp 23) (.tmp 26) (.val (.lit (.bool false))), none⟩,
     ⟨some 28, .val (.tmp 27), none⟩,
     ⟨some 29, .fieldAddr 2 (.tmp 1), some (28, true)⟩,
     ⟨some 30, .iload false 1 (.tmp 29), some (28, true)⟩,
     ⟨some 31, .fieldAddr 2 (.tmp 3), some (28, true)⟩,
     ⟨some 32, .load false 1 (.tmp 31), some (28, true)⟩,
     ⟨some 33, .bin .leq .num (.tmp 30) (.tmp 32), some (28, true)⟩,
     ⟨some 34, .pick (.tmp 28) (.tmp 33) (.val (.lit (.bool false))), none⟩,
     ⟨some 35, .val (.tmp 34), none⟩,
     ⟨some 36, .fieldAddr 1 (.tmp 1), some (35, true)⟩,
     ⟨some 37, .iload false 1 (.tmp 36), some (35, true)⟩,
     ⟨some 38, .fieldAddr 1 (.tmp 3), some (35, true)⟩,
     ⟨some 39, .load false 1 (.tmp 38), some (35, true)⟩,
     ⟨some 40, .call (.val (.fn (.func 41) [] [])) [(.tmp 37), (.tmp 39)], some (35, true)⟩,
     ⟨some 41, .pick (.tmp 35) (.tmp 40) (.val (.lit (.bool false))), none⟩,
     ⟨some 42, .val (.tmp 41), none⟩,
     ⟨some 43, .fieldAddr 3 (.tmp 1), some (42, true)⟩,
     ⟨some 44, .iload false 1 (.tmp 43), some (42, true)⟩,
     ⟨some 45, .call (.val (.fn (.func 42) [] [])) [(.tmp 44), (.val (.fn (.func 19) [] []))], some (42, true)⟩,
     ⟨some 46, .pick (.tmp 42) (.tmp 45) (.val (.lit (.bool false))), none⟩,
     ⟨some 2, .val (.tmp 46), none⟩]) (
  .ret))))

theorem c_tree_MayExpr : codeOf Tryd.prog { bz := [1], il := [5, 10, 14, 16, 18, 25, 30, 37, 44] } 19 = some (a_tree_MayExpr, [.tmp 2], 47) := by kernel_rfl

/-- bobbin/tree.may -/
def a_may_17 : ACode :=
      .ops [⟨some 18, .fieldAddr 1 (.tmp 3), none⟩,
        ⟨some 19, .load false 1 (.tmp 18), none⟩,
        ⟨some 20, .bin .geq .num (.tmp 19) (.val (.lit (.int .i64 0))), none⟩,
        ⟨some 21, .val (.tmp 20), none⟩,
        ⟨some 22, .fieldAddr 4 (.tmp 1), some (21, true)⟩,
        ⟨some 23, .iload false 1 (.tmp 22), some (21, true)⟩,
        ⟨some 24, .len 1 (.tmp 23), some (21, true)⟩,
        ⟨some 25, .fieldAddr 1 (.tmp 3), some (21, true)⟩,
        ⟨some 26, .load false 1 (.tmp 25), some (21, true)⟩,
        ⟨some 27, .bin .neq .num (.tmp 24) (.tmp 26), some (21, true)⟩,
        ⟨some 28, .pick (.tmp 21) (.tmp 27) (.val (.lit (.bool false))), none⟩,
        ⟨some 29, .val (.tmp 28), none⟩,
        ⟨some 30, .fieldAddr 4 (.tmp 1), some (29, false)⟩,
        ⟨some 31, .iload false 1 (.tmp 30), some (29, false)⟩,
        ⟨some 32, .len 1 (.tmp 31), some (29, false)⟩,
        ⟨some 33, .bin .gtr .num (.tmp 32) (.val (.lit (.int .i64 8))), some (29, false)⟩,
        ⟨some 34, .pick (.tmp 29) (.val (.lit (.bool true))) (.tmp 33), none⟩,
        ⟨some 35, .val (.tmp 34), none⟩,
        ⟨some 36, .fieldAddr 1 (.tmp 1), some (35, false)⟩,
        ⟨some 37, .iload false 1 (.tmp 36), some (35, false)⟩,
        ⟨some 38, .fieldAddr 0 (.tmp 3), some (35, false)⟩,
        ⟨some 39, .load false 1 (.tmp 38), some (35, false)⟩,
        ⟨some 40, .call (.val (.fn (.func 41) [] [])) [(.tmp 37), (.tmp 39)], some (35, false)⟩,
        ⟨some 41, .un .not (.tmp 40), some (35, false)⟩,
        ⟨some 42, .pick (.tmp 35) (.val (.lit (.bool true))) (.tmp 41), none⟩,
        ⟨some 17, .val (.tmp 42), none⟩]

def a_may_43 : ACode :=
        .ops [⟨some 44, .fieldAddr 2 (.tmp 1), none⟩,
          ⟨some 45, .iload false 1 (.tmp 44), none⟩,
          ⟨some 46, .bin .neq .num (.tmp 45) (.val (.lit (.string ⟨#[]⟩))), none⟩,
          ⟨some 47, .val (.tmp 46), none⟩,
          ⟨some 48, .fieldAddr 0 (.tmp 1), some (47, true)⟩,
          ⟨some 49, .iload false 1 (.tmp 48), some (47, true)⟩,
          ⟨some 50, .bin .neq .num (.tmp 49) (.val (.lit (.int .u8 8))), some (47, true)⟩,
          ⟨some 51, .val (.tmp 50), some (47, true)⟩,
          ⟨some 52, .fieldAddr 2 (.tmp 1), some (51, false)⟩,
          ⟨some 53, .iload false 1 (.tmp 52), some (51, false)⟩,
          ⟨some 54, .call (.val (.fn (.func 23) [] [])) [(.tmp 53)], some (51, false)⟩,
          ⟨some 55, .un .not (.tmp 54), some (51, false)⟩,
          ⟨some 56, .pick (.tmp 51) (.val (.lit (.bool true))) (.tmp 55), some (47, true)⟩,
          ⟨some 57, .pick (.tmp 47) (.tmp 56) (.val (.lit (.bool false))), none⟩,
          ⟨some 58, .val (.tmp 57), none⟩,
          ⟨some 59, .fieldAddr 2 (.tmp 1), some (58, false)⟩,
          ⟨some 60, .iload false 1 (.tmp 59), some (58, false)⟩,
          ⟨some 61, .bin .eql .num (.tmp 60) (.val (.lit (.string ⟨#[]⟩))), some (58, false)⟩,
          ⟨some 62, .val (.tmp 61), some (58, false)⟩,
          ⟨some 63, .fieldAddr 3 (.tmp 1), some (62, true)⟩,
          ⟨some 64, .iload false 1 (.tmp 63), some (62, true)⟩,
          ⟨some 65, .pick (.tmp 62) (.tmp 64) (.val (.lit (.bool false))), some (58, false)⟩,
          ⟨some 66, .pick (.tmp 58) (.val (.lit (.bool true))) (.tmp 65), none⟩,
          ⟨some 43, .val (.tmp 66), none⟩]

def a_may_67 : ACode :=
          .ops [⟨some 68, .fieldAddr 2 (.tmp 3), none⟩,
            ⟨some 69, .load false 1 (.tmp 68), none⟩,
            ⟨some 70, .un .not (.tmp 69), none⟩,
            ⟨some 71, .val (.tmp 70), none⟩,
            ⟨some 72, .fieldAddr 5 (.tmp 1), some (71, true)⟩,
            ⟨some 73, .iload false 1 (.tmp 72), some (71, true)⟩,
            ⟨some 74, .len 1 (.tmp 73), some (71, true)⟩,
            ⟨some 75, .bin .gtr .num (.tmp 74) (.val (.lit (.int .i64 0))), some (71, true)⟩,
            ⟨some 76, .pick (.tmp 71) (.tmp 75) (.val (.lit (.bool false))), none⟩,
            ⟨some 77, .val (.tmp 76), none⟩,
            ⟨some 78, .fieldAddr 3 (.tmp 3), some (77, false)⟩,
            ⟨some 79, .load false 1 (.tmp 78), some (77, false)⟩,
            ⟨some 80, .un .not (.tmp 79), some (77, false)⟩,
            ⟨some 81, .val (.tmp 80), some (77, false)⟩,
            ⟨some 82, .fieldAddr 6 (.tmp 1), some (81, true)⟩,
            ⟨some 83, .iload false 1 (.tmp 82), some (81, true)⟩,
            ⟨some 84, .len 1 (.tmp 83), some (81, true)⟩,
            ⟨some 85, .bin .gtr .num (.tmp 84) (.val (.lit (.int .i64 0))), some (81, true)⟩,
            ⟨some 86, .pick (.tmp 81) (.tmp 85) (.val (.lit (.bool false))), some (77, false)⟩,
            ⟨some 87, .pick (.tmp 77) (.val (.lit (.bool true))) (.tmp 86), none⟩,
            ⟨some 67, .val (.tmp 87), none⟩]

def a_may_e : ACode :=
   .ops [⟨some 88, .fieldAddr 4 (.tmp 1), none⟩,
     ⟨some 89, .iload false 1 (.tmp 88), none⟩,
     ⟨some 90, .call (.val (.fn (.func 42) [] [])) [(.tmp 89), (.val (.fn (.func 19) [] []))], none⟩,
     ⟨some 91, .val (.tmp 90), none⟩,
     ⟨some 92, .fieldAddr 5 (.tmp 1), some (91, true)⟩,
     ⟨some 93, .iload false 1 (.tmp 92), some (91, true)⟩,
     ⟨some 94, .call (.val (.fn (.func 53) [] [])) [(.tmp 93), (.val (.fn (.func 54) [] []))], some (91, true)⟩,
     ⟨some 95, .pick (.tmp 91) (.tmp 94) (.val (.lit (.bool false))), none⟩,
     ⟨some 96, .val (.tmp 95), none⟩,
     ⟨some 97, .fieldAddr 6 (.tmp 1), some (96, true)⟩,
     ⟨some 98, .iload false 1 (.tmp 97), some (96, true)⟩,
     ⟨some 99, .call (.val (.fn (.func 53) [] [])) [(.tmp 98), (.val (.fn (.func 54) [] []))], some (96, true)⟩,
     ⟨some 100, .pick (.tmp 96) (.tmp 99) (.val (.lit (.bool false))), none⟩,
     ⟨some 2, .val (.tmp 100), none⟩]

def a_tree_may : ACode :=
  .seq (
   .ops [⟨some 1, .box true (.tmp 0), none⟩,
     ⟨some 2, .val (.val (.lit (.bool false))), none⟩]) (
  .seq (
   .seq (
    .ops [⟨some 4, .fieldAddr 0 (.tmp 1), none⟩,
      ⟨some 5, .iload false 1 (.tmp 4), none⟩,
      ⟨some 6, .conv .i64 (.tmp 5), none⟩,
      ⟨some 7, .bin .geq .num (.tmp 6) (.val (.lit (.int .i64 10))), none⟩,
      ⟨some 8, .val (.tmp 7), none⟩,
      ⟨some 9, .fieldAddr 0 (.tmp 1), some (8, false)⟩,
      ⟨some 10, .iload false 1 (.tmp 9), some (8, false)⟩,
      ⟨some 11, .bin .lss .num (.tmp 10) (.val (.lit (.int .u8 1))), some (8, false)⟩,
      ⟨some 12, .pick (.tmp 8) (.val (.lit (.bool true))) (.tmp 11), none⟩]) (
   .cond (.tmp 12) (
     .seq (
      .ops [⟨some 2, .val (.val (.lit (.bool false))), none⟩]) (
     .ret)) (
     .skip))) (
  .seq (
   .ops [⟨some 13, .fieldAddr 0 (.tmp 1), none⟩,
     ⟨some 14, .iload false 1 (.tmp 13), none⟩,
     ⟨some 15, .indexP 4 10 (.glob 2) (.tmp 14), none⟩,
     ⟨some 16, .iload true 4 (.tmp 15), none⟩,
     ⟨some 3, .alloc [(.lit (.bool false)), (.lit (.int .i64 0)), (.lit (.bool false)), (.lit (.bool false))], none⟩,
     ⟨none, .store 4 (.tmp 3) (.tmp 16), none⟩]) (
  .seq (
   .block 0 (
     .seq a_may_17 (
     .cond (.tmp 17) (
       .seq (
        .ops [⟨some 2, .val (.val (.lit (.bool false))), none⟩]) (
       .ret)) (
       .seq a_may_43 (
       .cond (.tmp 43) (
         .seq (
          .ops [⟨some 2, .val (.val (.lit (.bool false))), none⟩]) (
         .ret)) (
         .seq a_may_67 (
         .cond (.tmp 67) (
           .seq (
            .ops [⟨some 2, .val (.val (.lit (.bool false))), none⟩]) (
           .ret)) (
           .skip)))))))) (
  .seq a_may_e (
  .ret)))))

theorem c_tree_may : codeOf Tryd.prog { bz := [1], il := [5, 10, 14, 16, 23, 31, 37, 45, 49, 53, 60, 64, 73, 83, 89, 93, 98] } 54 = some (a_tree_may, [.tmp 2], 101) := by kernel_rfl

/-- bobbin/tree.decl -/
def a_decl_25 : ACode :=
    .ops [⟨some 4, .fieldAddr 1 (.tmp 1), none⟩,
      ⟨some 5, .iload false 1 (.tmp 4), none⟩,
      ⟨some 6, .call (.val (.fn (.func 23) [] [])) [(.tmp 5)], none⟩,
      ⟨some 7, .un .not (.tmp 6), none⟩,
      ⟨some 8, .val (.tmp 7), none⟩,
      ⟨some 9, .fieldAddr 3 (.tmp 1), some (8, false)⟩,
      ⟨some 10, .iload false 1 (.tmp 9), some (8, false)⟩,
      ⟨some 11, .len 1 (.tmp 10), some (8, false)⟩,
      ⟨some 12, .bin .gtr .num (.tmp 11) (.val (.lit (.int .i64 8))), some (8, false)⟩,
      ⟨some 13, .pick (.tmp 8) (.val (.lit (.bool true))) (.tmp 12), none⟩,
      ⟨some 14, .val (.tmp 13), none⟩,
      ⟨some 15, .fieldAddr 3 (.tmp 1), some (14, false)⟩,
      ⟨some 16, .iload false 1 (.tmp 15), some (14, false)⟩,
      ⟨some 17, .call (.val (.fn (.func 52) [] [])) [(.tmp 16), (.val (.fn (.func 23) [] []))], some (14, false)⟩,
      ⟨some 18, .un .not (.tmp 17), some (14, false)⟩,
      ⟨some 19, .pick (.tmp 14) (.val (.lit (.bool true))) (.tmp 18), none⟩,
      ⟨some 20, .val (.tmp 19), none⟩,
      ⟨some 21, .fieldAddr 4 (.tmp 1), some (20, false)⟩,
      ⟨some 22, .iload false 1 (.tmp 21), some (20, false)⟩,
      ⟨some 23, .call (.val (.fn (.func 53) [] [])) [(.tmp 22), (.val (.fn (.func 54) [] []))], some (20, false)⟩,
      ⟨some 24, .un .not (.tmp 23), some (20, false)⟩,
      ⟨some 25, .pick (.tmp 20) (.val (.lit (.bool true))) (.tmp 24), none⟩]

def a_tree_decl : ACode :=
  .seq (
   .ops [⟨some 1, .box true (.tmp 0), none⟩,
     ⟨some 2, .val (.val (.lit (.bool false))), none⟩]) (
  .seq (
   .seq a_decl_25 (
   .cond (.tmp 25) (
     .seq (
      .ops [⟨some 2, .val (.val (.lit (.bool false))), none⟩]) (
     .ret)) (
     .skip))) (
  .seq (
   .ops [⟨some 26, .fieldAddr 3 (.tmp 1), none⟩,
     ⟨some 27, .iload false 1 (.tmp 26), none⟩,
     ⟨some 28, .len 1 (.tmp 27), none⟩,
     ⟨some 29, .bin .eql .num (.tmp 28) (.val (.lit (.int .i64 0))), none⟩,
     ⟨some 30, .val (.tmp 29), none⟩,
     ⟨some 31, .fieldAddr 4 (.tmp 1), some (30, true)⟩,
     ⟨some 32, .iload false 1 (.tmp 31), some (30, true)⟩,
     ⟨some 33, .len 1 (.tmp 32), some (30, true)⟩,
     ⟨some 34, .bin .eql .num (.tmp 33) (.val (.lit (.int .i64 0))), some (30, true)⟩,
     ⟨some 35, .pick (.tmp 30) (.tmp 34) (.val (.lit (.bool false))), none⟩,
     ⟨some 3, .val (.tmp 35), none⟩]) (
  .seq (
   .seq (
    .ops [⟨some 36, .fieldAddr 0 (.tmp 1), none⟩,
      ⟨some 37, .iload false 1 (.tmp 36), none⟩]) (
   .block 0 (
     .seq (
      .ops [⟨some 39, .bin .eql .num (.tmp 37) (.val (.lit (.int .u8 1))), none⟩,
        ⟨some 38, .val (.tmp 39), none⟩]) (
     .cond (.tmp 38) (
       .seq (
        .ops [⟨some 40, .val (.tmp 3), none⟩,
          ⟨some 2, .val (.tmp 40), none⟩]) (
       .ret)) (
       .seq (
        .ops [⟨some 42, .bin .eql .num (.tmp 37) (.val (.lit (.int .u8 2))), none⟩,
          ⟨some 41, .val (.tmp 42), none⟩]) (
       .cond (.tmp 41) (
         .seq (
          .ops [⟨some 43, .val (.tmp 3), none⟩,
            ⟨some 44, .val (.tmp 43), none⟩,
            ⟨some 45, .fieldAddr 2 (.tmp 1), some (44, true)⟩,
            ⟨some 46, .iload false 1 (.tmp 45), some (44, true)⟩,
            ⟨some 47, .bin .geq .num (.tmp 46) (.val (.lit (.int .i64 1))), some (44, true)⟩,
            ⟨some 48, .pick (.tmp 44) (.tmp 47) (.val (.lit (.bool false))), none⟩,
            ⟨some 49, .val (.tmp 48), none⟩,
            ⟨some 50, .fieldAddr 2 (.tmp 1), some (49, true)⟩,
            ⟨some 51, .iload false 1 (.tmp 50), some (49, true)⟩,
            ⟨some 52, .bin .leq .num (.tmp 51) (.val (.lit (.int .i64 1024))), some (49, true)⟩,
            ⟨some 53, .pick (.tmp 49) (.tmp 52) (.val (.lit (.bool false))), none⟩,
            ⟨some 2, .val (.tmp 53), none⟩]) (
         .ret)) (
         .seq (
          .ops [⟨some 55, .bin .eql .num (.tmp 37) (.val (.lit (.int .u8 3))), none⟩,
            ⟨some 54, .val (.tmp 55), none⟩]) (
         .cond (.tmp 54) (
           .seq (
            .ops [⟨some 56, .val (.tmp 3), none⟩,
              ⟨some 57, .val (.tmp 56), none⟩,
              ⟨some 58, .fieldAddr 2 (.tmp 1), some (57, true)⟩,
              ⟨some 59, .iload false 1 (.tmp 58), some (57, true)⟩,
              ⟨some 60, .bin .eql .num (.tmp 59) (.val (.lit (.int .i64 0))), some (57, true)⟩,
              ⟨some 61, .pick (.tmp 57) (.tmp 60) (.val (.lit (.bool false))), none⟩,
              ⟨some 2, .val (.tmp 61), none⟩]) (
           .ret)) (
           .seq (
            .ops [⟨some 63, .bin .eql .num (.tmp 37) (.val (.lit (.int .u8 4))), none⟩,
              ⟨some 62, .val (.tmp 63), none⟩]) (
           .cond (.tmp 62) (
             .seq (
              .ops [⟨some 64, .fieldAddr 2 (.tmp 1), none⟩,
                ⟨some 65, .iload false 1 (.tmp 64), none⟩,
                ⟨some 66, .bin .eql .num (.tmp 65) (.val (.lit (.int .i64 0))), none⟩,
                ⟨some 2, .val (.tmp 66), none⟩]) (
             .ret)) (
             .seq (
              .ops [⟨some 68, .bin .eql .num (.tmp 37) (.val (.lit (.int .u8 5))), none⟩,
                ⟨some 67, .val (.tmp 68), none⟩]) (
             .cond (.tmp 67) (
               .seq (
                .ops [⟨some 69, .fieldAddr 2 (.tmp 1), none⟩,
                  ⟨some 70, .iload false 1 (.tmp 69), none⟩,
                  ⟨some 71, .bin .eql .num (.tmp 70) (.val (.lit (.int .i64 0))), none⟩,
                  ⟨some 72, .val (.tmp 71), none⟩,
                  ⟨some 73, .fieldAddr 3 (.tmp 1), some (72, true)⟩,
                  ⟨some 74, .iload false 1 (.tmp 73), some (72, true)⟩,
                  ⟨some 75, .len 1 (.tmp 74), some (72, true)⟩,
                  ⟨some 76, .bin .eql .num (.tmp 75) (.val (.lit (.int .i64 0))), some (72, true)⟩,
                  ⟨some 77, .pick (.tmp 72) (.tmp 76) (.val (.lit (.bool false))), none⟩,
                  ⟨some 2, .val (.tmp 77), none⟩]) (
               .ret)) (
               .skip))))))))))))) (
  .seq (
   .ops [⟨some 2, .val (.val (.lit (.bool false))), none⟩]) (
  .ret)))))

theorem c_tree_decl : codeOf Tryd.prog { bz := [1], il := [5, 10, 16, 22, 27, 32, 37, 46, 51, 59, 65, 70, 74] } 30 = some (a_tree_decl, [.tmp 2], 78) := by kernel_rfl

/-- bobbin/tree.May -/
def a_tree_May : ACode :=
  .seq (
   .ops [⟨some 2, .val (.val (.lit (.bool false))), none⟩]) (
  .seq (
   .ops [⟨some 3, .val (.tmp 0), none⟩,
     ⟨some 4, .len 1 (.tmp 3), none⟩,
     ⟨some 5, .bin .leq .num (.tmp 4) (.val (.lit (.int .i64 256))), none⟩,
     ⟨some 6, .val (.tmp 5), none⟩,
     ⟨some 7, .val (.tmp 0), some (6, true)⟩,
     ⟨some 8, .call (.val (.fn (.func 29) [] [])) [(.tmp 7), (.val (.fn (.func 30) [] []))], some (6, true)⟩,
     ⟨some 9, .pick (.tmp 6) (.tmp 8) (.val (.lit (.bool false))), none⟩,
     ⟨some 10, .val (.tmp 9), none⟩,
     ⟨some 11, .val (.tmp 0), some (10, true)⟩,
     ⟨some 12, .call (.val (.fn (.func 13) [] [])) [(.tmp 11)], some (10, true)⟩,
     ⟨some 13, .bin .leq .num (.tmp 12) (.val (.lit (.int .i64 60))), some (10, true)⟩,
     ⟨some 14, .pick (.tmp 10) (.tmp 13) (.val (.lit (.bool false))), none⟩,
     ⟨some 2, .val (.tmp 14), none⟩]) (
  .ret))

theorem c_tree_May : codeOf Tryd.prog {  } 11 = some (a_tree_May, [.tmp 2], 15) := by kernel_rfl

/-- bobbin/tree.parts -/
def a_tree_parts : ACode :=
  .seq (
   .ops [⟨some 2, .box false (.tmp 0), none⟩,
     ⟨some 3, .box false (.tmp 1), none⟩,
     ⟨some 4, .val (.val (.lit .nilFunc)), none⟩]) (
  .seq (
   .ops [⟨some 5, .alloc [(.lit .nilFunc)], none⟩]) (
  .seq (
   .ops [⟨some 6, .mkfn (.func 56) [] [(.tmp 5)], none⟩,
     ⟨none, .store 1 (.tmp 5) (.tmp 6), none⟩]) (
  .seq (
   .ops [⟨some 7, .mkfn (.func 58) [] [(.tmp 2), (.tmp 3), (.tmp 5)], none⟩,
     ⟨some 4, .val (.tmp 7), none⟩]) (
  .ret))))

theorem c_tree_parts : codeOf Tryd.prog {  } 32 = some (a_tree_parts, [.tmp 4], 8) := by kernel_rfl

/-- bobbin/tree.parts$1 -/
def a_tree_parts_1 : ACode :=
  .seq (
   .ops [⟨some 4, .box true (.tmp 0), none⟩,
     ⟨some 5, .box false (.tmp 1), none⟩,
     ⟨some 6, .box false (.tmp 2), none⟩,
     ⟨some 7, .val (.val (.lit (.bool false))), none⟩]) (
  .seq (
   .seq (
    .ops [⟨some 8, .load false 1 (.tmp 6), none⟩,
      ⟨some 9, .load false 1 (.tmp 5), none⟩,
      ⟨some 10, .call (.tmp 8) [(.tmp 9)], none⟩,
      ⟨some 11, .un .not (.tmp 10), none⟩]) (
   .cond (.tmp 11) (
     .seq (
      .ops [⟨some 7, .val (.val (.lit (.bool false))), none⟩]) (
     .ret)) (
     .skip))) (
  .seq (
   .ops [⟨some 12, .fieldAddr 3 (.tmp 4), none⟩,
     ⟨some 13, .iload false 1 (.tmp 12), none⟩,
     ⟨some 14, .mkfn (.func 57) [] [(.tmp 3), (.tmp 5), (.tmp 6)], none⟩,
     ⟨some 15, .call (.val (.fn (.func 42) [] [])) [(.tmp 13), (.tmp 14)], none⟩,
     ⟨some 7, .val (.tmp 15), none⟩]) (
  .ret)))

theorem c_tree_parts_1 : codeOf Tryd.prog { bz := [4], il := [13] } 56 = some (a_tree_parts_1, [.tmp 7], 16) := by kernel_rfl

/-- bobbin/tree.parts$1$1 -/
def a_tree_parts_1_1 : ACode :=
  .seq (
   .ops [⟨some 4, .box true (.tmp 0), none⟩,
     ⟨some 5, .val (.val (.lit (.bool false))), none⟩]) (
  .seq (
   .ops [⟨some 6, .load false 1 (.tmp 1), none⟩,
     ⟨some 7, .iload true 5 (.tmp 4), none⟩,
     ⟨some 8, .load false 1 (.tmp 2), none⟩,
     ⟨some 9, .bin .add .num (.tmp 8) (.val (.lit (.int .i64 1))), none⟩,
     ⟨some 10, .load false 1 (.tmp 3), none⟩,
     ⟨some 11, .call (.tmp 6) [(.tmp 7), (.tmp 9), (.tmp 10)], none⟩,
     ⟨some 5, .val (.tmp 11), none⟩]) (
  .ret))

theorem c_tree_parts_1_1 : codeOf Tryd.prog { bz := [4], il := [7] } 57 = some (a_tree_parts_1_1, [.tmp 5], 12) := by kernel_rfl

/-- bobbin/tree.parts$2 -/
def a_tree_parts_2b1 : ACode :=
             .seq (
              .ops [⟨some 34, .bin .lss .num (.tmp 33) (.tmp 32), none⟩]) (
             .seq (
              .cond (.tmp 34) (
                .skip) (
                .exit 2)) (
             .seq (
              .block 3 (
                .seq (
                 .ops [⟨some 35, .indexAddr 1 (.tmp 31) (.tmp 33), none⟩,
                   ⟨some 36, .load false 1 (.tmp 35), none⟩,
                   ⟨some 8, .val (.tmp 36), none⟩]) (
                .seq (
                 .ops [⟨some 37, .val (.tmp 8), none⟩,
                   ⟨some 38, .load false 1 (.tmp 2), none⟩,
                   ⟨some 39, .bin .add .num (.tmp 38) (.val (.lit (.int .i64 1))), none⟩,
                   ⟨some 40, .call (.val (.fn (.func 32) [] [])) [(.tmp 37), (.tmp 39)], none⟩]) (
                .block 4 (
                  .range (.tmp 40) [41] (
                    .ops [⟨some 9, .val (.tmp 41), none⟩]) (
                    .block 5 (
                      .seq (
                       .ops [⟨some 42, .load false 1 (.tmp 4), none⟩,
                         ⟨some 43, .val (.tmp 9), none⟩,
                         ⟨some 44, .call (.tmp 42) [(.tmp 43)], none⟩,
                         ⟨some 45, .un .not (.tmp 44), none⟩]) (
                      .cond (.tmp 45) (
                        .ret) (
                        .skip))))))))) (
             .ops [⟨some 46, .bin .add .num (.tmp 33) (.val (.lit (.int .i64 1))), none⟩,
               ⟨some 33, .val (.tmp 46), none⟩])))

def a_tree_parts_2b2 : ACode :=
      .seq (
       .ops [⟨some 13, .bin .lss .num (.tmp 12) (.tmp 11), none⟩]) (
      .seq (
       .cond (.tmp 13) (
         .skip) (
         .exit 0)) (
      .seq (
       .block 1 (
         .seq (
          .ops [⟨some 14, .indexAddr 8 (.tmp 10) (.tmp 12), none⟩,
            ⟨some 15, .load true 8 (.tmp 14), none⟩,
            ⟨some 6, .alloc [(.lit (.int .u8 0)), (.lit (.string ⟨#[]⟩)), (.lit (.string ⟨#[]⟩)), (.lit (.bool false)), (.sl .nil 0 []), (.sl .nil 0 []), (.sl .nil 0 []), (.lit (.int .i64 0))], none⟩,
            ⟨none, .store 8 (.tmp 6) (.tmp 15), none⟩]) (
         .seq (
          .seq (
           .ops [⟨some 16, .load false 1 (.tmp 4), none⟩,
             ⟨some 17, .load false 1 (.tmp 2), none⟩,
             ⟨some 18, .call (.tmp 16) [(.tmp 17)], none⟩,
             ⟨some 19, .un .not (.tmp 18), none⟩,
             ⟨some 20, .val (.tmp 19), none⟩,
             ⟨some 21, .fieldAddr 4 (.tmp 6), some (20, false)⟩,
             ⟨some 22, .load false 1 (.tmp 21), some (20, false)⟩,
             ⟨some 23, .mkfn (.func 59) [] [(.tmp 3), (.tmp 2), (.tmp 4)], some (20, false)⟩,
             ⟨some 24, .call (.val (.fn (.func 42) [] [])) [(.tmp 22), (.tmp 23)], some (20, false)⟩,
             ⟨some 25, .un .not (.tmp 24), some (20, false)⟩,
             ⟨some 26, .pick (.tmp 20) (.val (.lit (.bool true))) (.tmp 25), none⟩]) (
          .cond (.tmp 26) (
            .ret) (
            .skip))) (
         .seq (
          .ops [⟨some 27, .fieldAddr 5 (.tmp 6), none⟩,
            ⟨some 28, .load false 1 (.tmp 27), none⟩,
            ⟨some 29, .fieldAddr 6 (.tmp 6), none⟩,
            ⟨some 30, .load false 1 (.tmp 29), none⟩,
            ⟨some 31, .bslice false 1 2 [(.sl .nil 0 []), (.sl .nil 0 [])] [(0, 1, (.tmp 28)), (1, 1, (.tmp 30))], none⟩,
            ⟨some 32, .len 1 (.tmp 31), none⟩,
            ⟨some 33, .val (.val (.lit (.int .i64 0))), none⟩]) (
         .block 2 (
           .loop a_tree_parts_2b1)))))) (
      .ops [⟨some 47, .bin .add .num (.tmp 12) (.val (.lit (.int .i64 1))), none⟩,
        ⟨some 12, .val (.tmp 47), none⟩])))

def a_tree_parts_2 : ACode :=
  .seq (
   .ops [⟨some 4, .box false (.tmp 0), none⟩]) (
  .seq (
   .ops [⟨some 10, .load false 1 (.tmp 1), none⟩,
     ⟨some 11, .len 1 (.tmp 10), none⟩,
     ⟨some 12, .val (.val (.lit (.int .i64 0))), none⟩]) (
  .block 0 (
    .loop a_tree_parts_2b2)))

theorem c_tree_parts_2 : codeOf Tryd.prog {  } 58 = some (a_tree_parts_2, [], 48) := by kernel_rfl

/-- bobbin/tree.parts$2$1 -/
def a_tree_parts_2_1 : ACode :=
  .seq (
   .ops [⟨some 4, .box true (.tmp 0), none⟩,
     ⟨some 5, .val (.val (.lit (.bool false))), none⟩]) (
  .seq (
   .ops [⟨some 6, .load false 1 (.tmp 1), none⟩,
     ⟨some 7, .iload true 5 (.tmp 4), none⟩,
     ⟨some 8, .load false 1 (.tmp 2), none⟩,
     ⟨some 9, .bin .add .num (.tmp 8) (.val (.lit (.int .i64 1))), none⟩,
     ⟨some 10, .load false 1 (.tmp 3), none⟩,
     ⟨some 11, .call (.tmp 6) [(.tmp 7), (.tmp 9), (.tmp 10)], none⟩,
     ⟨some 5, .val (.tmp 11), none⟩]) (
  .ret))

theorem c_tree_parts_2_1 : codeOf Tryd.prog { bz := [4], il := [7] } 59 = some (a_tree_parts_2_1, [.tmp 5], 12) := by kernel_rfl

/-- bobbin/tree.Depth -/
def a_tree_Depthb1 : ACode :=
       .seq (
        .ops [⟨some 10, .bin .lss .num (.tmp 9) (.tmp 8), none⟩]) (
       .seq (
        .cond (.tmp 10) (
          .skip) (
          .exit 0)) (
       .seq (
        .block 1 (
          .seq (
           .ops [⟨some 11, .indexAddr 6 (.tmp 7) (.tmp 9), none⟩,
             ⟨some 12, .load true 6 (.tmp 11), none⟩,
             ⟨some 5, .alloc [(.lit (.int .u8 0)), (.lit (.string ⟨#[]⟩)), (.lit (.int .i64 0)), (.sl .nil 0 []), (.sl .nil 0 []), (.lit (.int .i64 0))], none⟩,
             ⟨none, .store 6 (.tmp 5) (.tmp 12), none⟩]) (
          .seq (
           .ops [⟨some 13, .fieldAddr 4 (.tmp 5), none⟩,
             ⟨some 14, .load false 1 (.tmp 13), none⟩,
             ⟨some 15, .call (.val (.fn (.func 32) [] [])) [(.tmp 14), (.val (.lit (.int .i64 1)))], none⟩]) (
          .block 2 (
            .range (.tmp 15) [16] (
              .ops [⟨some 6, .val (.tmp 16), none⟩]) (
              .block 3 (
                .ops [⟨some 17, .load false 1 (.tmp 3), none⟩,
                  ⟨some 18, .val (.tmp 6), none⟩,
                  ⟨some 19, .mm2 true (.tmp 17) (.tmp 18), none⟩,
                  ⟨none, .store 1 (.tmp 3) (.tmp 19), none⟩]))))))) (
       .ops [⟨some 20, .bin .add .num (.tmp 9) (.val (.lit (.int .i64 1))), none⟩,
         ⟨some 9, .val (.tmp 20), none⟩])))

def a_tree_Depth : ACode :=
  .seq (
   .ops [⟨some 2, .val (.val (.lit (.int .i64 0))), none⟩]) (
  .seq (
   .ops [⟨some 3, .alloc [(.lit (.int .i64 0))], none⟩,
     ⟨none, .store 1 (.tmp 3) (.val (.lit (.int .i64 0))), none⟩]) (
  .seq (
   .seq (
    .ops [⟨some 7, .val (.tmp 0), none⟩,
      ⟨some 8, .len 1 (.tmp 7), none⟩,
      ⟨some 9, .val (.val (.lit (.int .i64 0))), none⟩]) (
   .block 0 (
     .loop a_tree_Depthb1))) (
  .seq (
   .ops [⟨some 21, .load false 1 (.tmp 3), none⟩,
     ⟨some 2, .val (.tmp 21), none⟩]) (
  .ret))))

theorem c_tree_Depth : codeOf Tryd.prog {  } 13 = some (a_tree_Depth, [.tmp 2], 22) := by kernel_rfl

/-- bobbin/tree.Size -/
def a_tree_Sizeb1 : ACode :=
       .seq (
        .ops [⟨some 11, .bin .lss .num (.tmp 10) (.tmp 9), none⟩]) (
       .seq (
        .cond (.tmp 11) (
          .skip) (
          .exit 0)) (
       .seq (
        .block 1 (
          .seq (
           .ops [⟨some 12, .indexAddr 6 (.tmp 8) (.tmp 10), none⟩,
             ⟨some 13, .load true 6 (.tmp 12), none⟩,
             ⟨some 5, .alloc [(.lit (.int .u8 0)), (.lit (.string ⟨#[]⟩)), (.lit (.int .i64 0)), (.sl .nil 0 []), (.sl .nil 0 []), (.lit (.int .i64 0))], none⟩,
             ⟨none, .store 6 (.tmp 5) (.tmp 13), none⟩]) (
          .seq (
           .ops [⟨some 14, .fieldAddr 4 (.tmp 5), none⟩,
             ⟨some 15, .load false 1 (.tmp 14), none⟩,
             ⟨some 16, .call (.val (.fn (.func 32) [] [])) [(.tmp 15), (.val (.lit (.int .i64 1)))], none⟩]) (
          .block 2 (
            .range (.tmp 16) [17] (
              .skip) (
              .block 3 (
                .ops [⟨some 18, .load false 1 (.tmp 3), none⟩,
                  ⟨some 19, .bin .add .num (.tmp 18) (.val (.lit (.int .i64 1))), none⟩,
                  ⟨none, .store 1 (.tmp 3) (.tmp 19), none⟩]))))))) (
       .ops [⟨some 20, .bin .add .num (.tmp 10) (.val (.lit (.int .i64 1))), none⟩,
         ⟨some 10, .val (.tmp 20), none⟩])))

def a_tree_Size : ACode :=
  .seq (
   .ops [⟨some 2, .val (.val (.lit (.int .i64 0))), none⟩]) (
  .seq (
   .ops [⟨some 6, .val (.tmp 0), none⟩,
     ⟨some 7, .len 1 (.tmp 6), none⟩,
     ⟨some 3, .alloc [(.lit (.int .i64 0))], none⟩,
     ⟨none, .store 1 (.tmp 3) (.tmp 7), none⟩]) (
  .seq (
   .seq (
    .ops [⟨some 8, .val (.tmp 0), none⟩,
      ⟨some 9, .len 1 (.tmp 8), none⟩,
      ⟨some 10, .val (.val (.lit (.int .i64 0))), none⟩]) (
   .block 0 (
     .loop a_tree_Sizeb1))) (
  .seq (
   .ops [⟨some 21, .load false 1 (.tmp 3), none⟩,
     ⟨some 2, .val (.tmp 21), none⟩]) (
  .ret))))

theorem c_tree_Size : codeOf Tryd.prog {  } 15 = some (a_tree_Size, [.tmp 2], 22) := by kernel_rfl

/-- bobbin/tree.SameExpr -/
def a_tree_SameExpr : ACode :=
  .seq (
   .ops [⟨some 2, .box true (.tmp 0), none⟩,
     ⟨some 3, .box true (.tmp 1), none⟩,
     ⟨some 4, .val (.val (.lit (.bool false))), none⟩]) (
  .seq (
   .ops [⟨some 5, .fieldAddr 0 (.tmp 2), none⟩,
     ⟨some 6, .iload false 1 (.tmp 5), none⟩,
     ⟨some 7, .fieldAddr 0 (.tmp 3), none⟩,
     ⟨some 8, .iload false 1 (.tmp 7), none⟩,
     ⟨some 9, .bin .eql .num (.tmp 6) (.tmp 8), none⟩,
     ⟨some 10, .val (.tmp 9), none⟩,
     ⟨some 11, .fieldAddr 1 (.tmp 2), some (10, true)⟩,
     ⟨some 12, .iload false 1 (.tmp 11), some (10, true)⟩,
     ⟨some 13, .fieldAddr 1 (.tmp 3), some (10, true)⟩,
     ⟨some 14, .iload false 1 (.tmp 13), some (10, true)⟩,
     ⟨some 15, .bin .eql .num (.tmp 12) (.tmp 14), some (10, true)⟩,
     ⟨some 16, .pick (.tmp 10) (.tmp 15) (.val (.lit (.bool false))), none⟩,
     ⟨some 17, .val (.tmp 16), none⟩,
     ⟨some 18, .fieldAddr 2 (.tmp 2), some (17, true)⟩,
     ⟨some 19, .iload false 1 (.tmp 18), some (17, true)⟩,
     ⟨some 20, .fieldAddr 2 (.tmp 3), some (17, true)⟩,
     ⟨some 21, .iload false 1 (.tmp 20), some (17, true)⟩,
     ⟨some 22, .bin .eql .num (.tmp 19) (.tmp 21), some (17, true)⟩,
     ⟨some 23, .pick (.tmp 17) (.tmp 22) (.val (.lit (.bool false))), none⟩,
     ⟨some 24, .val (.tmp 23), none⟩,
     ⟨some 25, .fieldAddr 3 (.tmp 2), some (24, true)⟩,
     ⟨some 26, .iload false 1 (.tmp 25), some (24, true)⟩,
     ⟨some 27, .fieldAddr 3 (.tmp 3), some (24, true)⟩,
     ⟨some 28, .iload false 1 (.tmp 27), some (24, true)⟩,
     ⟨some 29, .call (.val (.fn (.func 44) [] [])) [(.tmp 26), (.tmp 28), (.val (.fn (.func 21) [] []))], some (24, true)⟩,
     ⟨some 30, .pick (.tmp 24) (.tmp 29) (.val (.lit (.bool false))), none⟩,
     ⟨some 4, .val (.tmp 30), none⟩]) (
  .ret))

theorem c_tree_SameExpr : codeOf Tryd.prog { bz := [2, 3], il := [6, 8, 12, 14, 19, 21, 26, 28] } 21 = some (a_tree_SameExpr, [.tmp 4], 31) := by kernel_rfl

/-- bobbin/tree.same -/
def a_tree_same : ACode :=
  .seq (
   .ops [⟨some 2, .box true (.tmp 0), none⟩,
     ⟨some 3, .box true (.tmp 1), none⟩,
     ⟨some 4, .val (.val (.lit (.bool false))), none⟩]) (
  .seq (
   .ops [⟨some 5, .fieldAddr 0 (.tmp 2), none⟩,
     ⟨some 6, .iload false 1 (.tmp 5), none⟩,
     ⟨some 7, .fieldAddr 0 (.tmp 3), none⟩,
     ⟨some 8, .iload false 1 (.tmp 7), none⟩,
     ⟨some 9, .bin .eql .num (.tmp 6) (.tmp 8), none⟩,
     ⟨some 10, .val (.tmp 9), none⟩,
     ⟨some 11, .fieldAddr 1 (.tmp 2), some (10, true)⟩,
     ⟨some 12, .iload false 1 (.tmp 11), some (10, true)⟩,
     ⟨some 13, .fieldAddr 1 (.tmp 3), some (10, true)⟩,
     ⟨some 14, .iload false 1 (.tmp 13), some (10, true)⟩,
     ⟨some 15, .bin .eql .num (.tmp 12) (.tmp 14), some (10, true)⟩,
     ⟨some 16, .pick (.tmp 10) (.tmp 15) (.val (.lit (.bool false))), none⟩,
     ⟨some 17, .val (.tmp 16), none⟩,
     ⟨some 18, .fieldAddr 2 (.tmp 2), some (17, true)⟩,
     ⟨some 19, .iload false 1 (.tmp 18), some (17, true)⟩,
     ⟨some 20, .fieldAddr 2 (.tmp 3), some (17, true)⟩,
     ⟨some 21, .iload false 1 (.tmp 20), some (17, true)⟩,
     ⟨some 22, .bin .eql .num (.tmp 19) (.tmp 21), some (17, true)⟩,
     ⟨some 23, .pick (.tmp 17) (.tmp 22) (.val (.lit (.bool false))), none⟩,
     ⟨some 24, .val (.tmp 23), none⟩,
     ⟨some 25, .fieldAddr 3 (.tmp 2), some (24, true)⟩,
     ⟨some 26, .iload false 1 (.tmp 25), some (24, true)⟩,
     ⟨some 27, .fieldAddr 3 (.tmp 3), some (24, true)⟩,
     ⟨some 28, .iload false 1 (.tmp 27), some (24, true)⟩,
     ⟨some 29, .bin .eql .bool (.tmp 26) (.tmp 28), some (24, true)⟩,
     ⟨some 30, .pick (.tmp 24) (.tmp 29) (.val (.lit (.bool false))), none⟩,
     ⟨some 31, .val (.tmp 30), none⟩,
     ⟨some 32, .fieldAddr 4 (.tmp 2), some (31, true)⟩,
     ⟨some 33, .iload false 1 (.tmp 32), some (31, true)⟩,
     ⟨some 34, .fieldAddr 4 (.tmp 3), some (31, true)⟩,
     ⟨some 35, .iload false 1 (.tmp 34), some (31, true)⟩,
     ⟨some 36, .call (.val (.fn (.func 44) [] [])) [(.tmp 33), (.tmp 35), (.val (.fn (.func 21) [] []))], some (31, true)⟩,
     ⟨some 37, .pick (.tmp 31) (.tmp 36) (.val (.lit (.bool false))), none⟩,
     ⟨some 38, .val (.tmp 37), none⟩,
     ⟨some 39, .fieldAddr 5 (.tmp 2), some (38, true)⟩,
     ⟨some 40, .iload false 1 (.tmp 39), some (38, true)⟩,
     ⟨some 41, .fieldAddr 5 (.tmp 3), some (38, true)⟩,
     ⟨some 42, .iload false 1 (.tmp 41), some (38, true)⟩,
     ⟨some 43, .call (.val (.fn (.func 38) [] [])) [(.tmp 40), (.tmp 42), (.val (.fn (.func 39) [] []))], some (38, true)⟩,
     ⟨some 44, .pick (.tmp 38) (.tmp 43) (.val (.lit (.bool false))), none⟩,
     ⟨some 45, .val (.tmp 44), none⟩,
     ⟨some 46, .fieldAddr 6 (.tmp 2), some (45, true)⟩,
     ⟨some 47, .iload false 1 (.tmp 46), some (45, true)⟩,
     ⟨some 48, .fieldAddr 6 (.tmp 3), some (45, true)⟩,
     ⟨some 49, .iload false 1 (.tmp 48), some (45, true)⟩,
     ⟨some 50, .call (.val (.fn (.func 38) [] [])) [(.tmp 47), (.tmp 49), (.val (.fn (.func 39) [] []))], some (45, true)⟩,
     ⟨some 51, .pick (.tmp 45) (.tmp 50) (.val (.lit (.bool false))), none⟩,
     ⟨some 4, .val (.tmp 51), none⟩]) (
  .ret))

theorem c_tree_same : codeOf Tryd.prog { bz := [2, 3], il := [6, 8, 12, 14, 19, 21, 26, 28, 33, 35, 40, 42, 47, 49] } 39 = some (a_tree_same, [.tmp 4], 52) := by kernel_rfl

/-- bobbin/tree.Same -/
def a_tree_Same : ACode :=
  .seq (
   .ops [⟨some 4, .val (.val (.lit (.bool false))), none⟩]) (
  .seq (
   .ops [⟨some 5, .val (.tmp 0), none⟩,
     ⟨some 6, .val (.tmp 1), none⟩,
     ⟨some 7, .call (.val (.fn (.func 35) [] [])) [(.tmp 5), (.tmp 6), (.val (.fn (.func 36) [] []))], none⟩,
     ⟨some 4, .val (.tmp 7), none⟩]) (
  .ret))

theorem c_tree_Same : codeOf Tryd.prog {  } 17 = some (a_tree_Same, [.tmp 4], 8) := by kernel_rfl

/-- bobbin/tree.Same$1 -/
def a_tree_Same_1 : ACode :=
  .seq (
   .ops [⟨some 2, .box true (.tmp 0), none⟩,
     ⟨some 3, .box true (.tmp 1), none⟩,
     ⟨some 4, .val (.val (.lit (.bool false))), none⟩]) (
  .seq (
   .ops [⟨some 5, .fieldAddr 0 (.tmp 2), none⟩,
     ⟨some 6, .iload false 1 (.tmp 5), none⟩,
     ⟨some 7, .fieldAddr 0 (.tmp 3), none⟩,
     ⟨some 8, .iload false 1 (.tmp 7), none⟩,
     ⟨some 9, .bin .eql .num (.tmp 6) (.tmp 8), none⟩,
     ⟨some 10, .val (.tmp 9), none⟩,
     ⟨some 11, .fieldAddr 1 (.tmp 2), some (10, true)⟩,
     ⟨some 12, .iload false 1 (.tmp 11), some (10, true)⟩,
     ⟨some 13, .fieldAddr 1 (.tmp 3), some (10, true)⟩,
     ⟨some 14, .iload false 1 (.tmp 13), some (10, true)⟩,
     ⟨some 15, .bin .eql .num (.tmp 12) (.tmp 14), some (10, true)⟩,
     ⟨some 16, .pick (.tmp 10) (.tmp 15) (.val (.lit (.bool false))), none⟩,
     ⟨some 17, .val (.tmp 16), none⟩,
     ⟨some 18, .fieldAddr 2 (.tmp 2), some (17, true)⟩,
     ⟨some 19, .iload false 1 (.tmp 18), some (17, true)⟩,
     ⟨some 20, .fieldAddr 2 (.tmp 3), some (17, true)⟩,
     ⟨some 21, .iload false 1 (.tmp 20), some (17, true)⟩,
     ⟨some 22, .bin .eql .num (.tmp 19) (.tmp 21), some (17, true)⟩,
     ⟨some 23, .pick (.tmp 17) (.tmp 22) (.val (.lit (.bool false))), none⟩,
     ⟨some 24, .val (.tmp 23), none⟩,
     ⟨some 25, .fieldAddr 3 (.tmp 2), some (24, true)⟩,
     ⟨some 26, .iload false 1 (.tmp 25), some (24, true)⟩,
     ⟨some 27, .fieldAddr 3 (.tmp 3), some (24, true)⟩,
     ⟨some 28, .iload false 1 (.tmp 27), some (24, true)⟩,
     ⟨some 29, .call (.val (.fn (.func 37) [] [])) [(.tmp 26), (.tmp 28)], some (24, true)⟩,
     ⟨some 30, .pick (.tmp 24) (.tmp 29) (.val (.lit (.bool false))), none⟩,
     ⟨some 31, .val (.tmp 30), none⟩,
     ⟨some 32, .fieldAddr 4 (.tmp 2), some (31, true)⟩,
     ⟨some 33, .iload false 1 (.tmp 32), some (31, true)⟩,
     ⟨some 34, .fieldAddr 4 (.tmp 3), some (31, true)⟩,
     ⟨some 35, .iload false 1 (.tmp 34), some (31, true)⟩,
     ⟨some 36, .call (.val (.fn (.func 38) [] [])) [(.tmp 33), (.tmp 35), (.val (.fn (.func 39) [] []))], some (31, true)⟩,
     ⟨some 37, .pick (.tmp 31) (.tmp 36) (.val (.lit (.bool false))), none⟩,
     ⟨some 4, .val (.tmp 37), none⟩]) (
  .ret))

theorem c_tree_Same_1 : codeOf Tryd.prog { bz := [2, 3], il := [6, 8, 12, 14, 19, 21, 26, 28, 33, 35] } 36 = some (a_tree_Same_1, [.tmp 4], 38) := by kernel_rfl

/-- slices.EqualFunc[[]bobbin/api.Decl,[]bobbin/api.Decl,bobbin/api.Decl,bobbin/api.Decl] -/
def a_slices_EqualFunc_api_Decl_api_Decl_api_Decl_api_Declb1 : ACode :=
       .seq (
        .ops [⟨some 18, .bin .lss .num (.tmp 17) (.tmp 16), none⟩]) (
       .seq (
        .cond (.tmp 18) (
          .skip) (
          .exit 0)) (
       .seq (
        .block 1 (
          .seq (
           .ops [⟨some 19, .val (.tmp 17), none⟩,
             ⟨some 20, .indexAddr 6 (.tmp 15) (.tmp 17), none⟩,
             ⟨some 21, .load true 6 (.tmp 20), none⟩,
             ⟨some 8, .alloc [(.lit (.int .u8 0)), (.lit (.string ⟨#[]⟩)), (.lit (.int .i64 0)), (.sl .nil 0 []), (.sl .nil 0 []), (.lit (.int .i64 0))], none⟩,
             ⟨some 7, .val (.tmp 19), none⟩,
             ⟨none, .store 6 (.tmp 8) (.tmp 21), none⟩]) (
          .seq (
           .ops [⟨some 22, .val (.tmp 1), none⟩,
             ⟨some 23, .val (.tmp 7), none⟩,
             ⟨some 24, .indexAddr 6 (.tmp 22) (.tmp 23), none⟩,
             ⟨some 25, .load true 6 (.tmp 24), none⟩,
             ⟨some 9, .alloc [(.lit (.int .u8 0)), (.lit (.string ⟨#[]⟩)), (.lit (.int .i64 0)), (.sl .nil 0 []), (.sl .nil 0 []), (.lit (.int .i64 0))], none⟩,
             ⟨none, .store 6 (.tmp 9) (.tmp 25), none⟩]) (
          .seq (
           .ops [⟨some 26, .val (.tmp 2), none⟩,
             ⟨some 27, .load true 6 (.tmp 8), none⟩,
             ⟨some 28, .load true 6 (.tmp 9), none⟩,
             ⟨some 29, .call (.tmp 26) [(.tmp 27), (.tmp 28)], none⟩,
             ⟨some 30, .un .not (.tmp 29), none⟩]) (
          .cond (.tmp 30) (
            .seq (
             .ops [⟨some 6, .val (.val (.lit (.bool false))), none⟩]) (
            .ret)) (
            .skip)))))) (
       .ops [⟨some 31, .bin .add .num (.tmp 17) (.val (.lit (.int .i64 1))), none⟩,
         ⟨some 17, .val (.tmp 31), none⟩])))

def a_slices_EqualFunc_api_Decl_api_Decl_api_Decl_api_Decl : ACode :=
  .seq (
   .ops [⟨some 6, .val (.val (.lit (.bool false))), none⟩]) (
  .seq (
   .seq (
    .ops [⟨some 10, .val (.tmp 0), none⟩,
      ⟨some 11, .len 1 (.tmp 10), none⟩,
      ⟨some 12, .val (.tmp 1), none⟩,
      ⟨some 13, .len 1 (.tmp 12), none⟩,
      ⟨some 14, .bin .neq .num (.tmp 11) (.tmp 13), none⟩]) (
   .cond (.tmp 14) (
     .seq (
      .ops [⟨some 6, .val (.val (.lit (.bool false))), none⟩]) (
     .ret)) (
     .skip))) (
  .seq (
   .seq (
    .ops [⟨some 15, .val (.tmp 0), none⟩,
      ⟨some 16, .len 1 (.tmp 15), none⟩,
      ⟨some 17, .val (.val (.lit (.int .i64 0))), none⟩]) (
   .block 0 (
     .loop a_slices_EqualFunc_api_Decl_api_Decl_api_Decl_api_Declb1))) (
  .seq (
   .ops [⟨some 6, .val (.val (.lit (.bool true))), none⟩]) (
  .ret))))

theorem c_slices_EqualFunc_api_Decl_api_Decl_api_Decl_api_Decl : codeOf Tryd.prog {  } 35 = some (a_slices_EqualFunc_api_Decl_api_Decl_api_Decl_api_Decl, [.tmp 6], 32) := by kernel_rfl

/-- slices.EqualFunc[[]bobbin/api.Stmt,[]bobbin/api.Stmt,bobbin/api.Stmt,bobbin/api.Stmt] -/
def a_slices_EqualFunc_api_Stmt_api_Stmt_api_Stmt_api_Stmtb1 : ACode :=
       .seq (
        .ops [⟨some 18, .bin .lss .num (.tmp 17) (.tmp 16), none⟩]) (
       .seq (
        .cond (.tmp 18) (
          .skip) (
          .exit 0)) (
       .seq (
        .block 1 (
          .seq (
           .ops [⟨some 19, .val (.tmp 17), none⟩,
             ⟨some 20, .indexAddr 8 (.tmp 15) (.tmp 17), none⟩,
             ⟨some 21, .load true 8 (.tmp 20), none⟩,
             ⟨some 8, .alloc [(.lit (.int .u8 0)), (.lit (.string ⟨#[]⟩)), (.lit (.string ⟨#[]⟩)), (.lit (.bool false)), (.sl .nil 0 []), (.sl .nil 0 []), (.sl .nil 0 []), (.lit (.int .i64 0))], none⟩,
             ⟨some 7, .val (.tmp 19), none⟩,
             ⟨none, .store 8 (.tmp 8) (.tmp 21), none⟩]) (
          .seq (
           .ops [⟨some 22, .val (.tmp 1), none⟩,
             ⟨some 23, .val (.tmp 7), none⟩,
             ⟨some 24, .indexAddr 8 (.tmp 22) (.tmp 23), none⟩,
             ⟨some 25, .load true 8 (.tmp 24), none⟩,
             ⟨some 9, .alloc [(.lit (.int .u8 0)), (.lit (.string ⟨#[]⟩)), (.lit (.string ⟨#[]⟩)), (.lit (.bool false)), (.sl .nil 0 []), (.sl .nil 0 []), (.sl .nil 0 []), (.lit (.int .i64 0))], none⟩,
             ⟨none, .store 8 (.tmp 9) (.tmp 25), none⟩]) (
          .seq (
           .ops [⟨some 26, .val (.tmp 2), none⟩,
             ⟨some 27, .load true 8 (.tmp 8), none⟩,
             ⟨some 28, .load true 8 (.tmp 9), none⟩,
             ⟨some 29, .call (.tmp 26) [(.tmp 27), (.tmp 28)], none⟩,
             ⟨some 30, .un .not (.tmp 29), none⟩]) (
          .cond (.tmp 30) (
            .seq (
             .ops [⟨some 6, .val (.val (.lit (.bool false))), none⟩]) (
            .ret)) (
            .skip)))))) (
       .ops [⟨some 31, .bin .add .num (.tmp 17) (.val (.lit (.int .i64 1))), none⟩,
         ⟨some 17, .val (.tmp 31), none⟩])))

def a_slices_EqualFunc_api_Stmt_api_Stmt_api_Stmt_api_Stmt : ACode :=
  .seq (
   .ops [⟨some 6, .val (.val (.lit (.bool false))), none⟩]) (
  .seq (
   .seq (
    .ops [⟨some 10, .val (.tmp 0), none⟩,
      ⟨some 11, .len 1 (.tmp 10), none⟩,
      ⟨some 12, .val (.tmp 1), none⟩,
      ⟨some 13, .len 1 (.tmp 12), none⟩,
      ⟨some 14, .bin .neq .num (.tmp 11) (.tmp 13), none⟩]) (
   .cond (.tmp 14) (
     .seq (
      .ops [⟨some 6, .val (.val (.lit (.bool false))), none⟩]) (
     .ret)) (
     .skip))) (
  .seq (
   .seq (
    .ops [⟨some 15, .val (.tmp 0), none⟩,
      ⟨some 16, .len 1 (.tmp 15), none⟩,
      ⟨some 17, .val (.val (.lit (.int .i64 0))), none⟩]) (
   .block 0 (
     .loop a_slices_EqualFunc_api_Stmt_api_Stmt_api_Stmt_api_Stmtb1))) (
  .seq (
   .ops [⟨some 6, .val (.val (.lit (.bool true))), none⟩]) (
  .ret))))

theorem c_slices_EqualFunc_api_Stmt_api_Stmt_api_Stmt_api_Stmt : codeOf Tryd.prog {  } 38 = some (a_slices_EqualFunc_api_Stmt_api_Stmt_api_Stmt_api_Stmt, [.tmp 6], 32) := by kernel_rfl

/-- slices.EqualFunc[[]bobbin/api.Expr,[]bobbin/api.Expr,bobbin/api.Expr,bobbin/api.Expr] -/
def a_slices_EqualFunc_api_Expr_api_Expr_api_Expr_api_Exprb1 : ACode :=
       .seq (
        .ops [⟨some 18, .bin .lss .num (.tmp 17) (.tmp 16), none⟩]) (
       .seq (
        .cond (.tmp 18) (
          .skip) (
          .exit 0)) (
       .seq (
        .block 1 (
          .seq (
           .ops [⟨some 19, .val (.tmp 17), none⟩,
             ⟨some 20, .indexAddr 5 (.tmp 15) (.tmp 17), none⟩,
             ⟨some 21, .load true 5 (.tmp 20), none⟩,
             ⟨some 8, .alloc [(.lit (.int .u8 0)), (.lit (.string ⟨#[]⟩)), (.lit (.int .i64 0)), (.sl .nil 0 []), (.lit (.int .i64 0))], none⟩,
             ⟨some 7, .val (.tmp 19), none⟩,
             ⟨none, .store 5 (.tmp 8) (.tmp 21), none⟩]) (
          .seq (
           .ops [⟨some 22, .val (.tmp 1), none⟩,
             ⟨some 23, .val (.tmp 7), none⟩,
             ⟨some 24, .indexAddr 5 (.tmp 22) (.tmp 23), none⟩,
             ⟨some 25, .load true 5 (.tmp 24), none⟩,
             ⟨some 9, .alloc [(.lit (.int .u8 0)), (.lit (.string ⟨#[]⟩)), (.lit (.int .i64 0)), (.sl .nil 0 []), (.lit (.int .i64 0))], none⟩,
             ⟨none, .store 5 (.tmp 9) (.tmp 25), none⟩]) (
          .seq (
           .ops [⟨some 26, .val (.tmp 2), none⟩,
             ⟨some 27, .load true 5 (.tmp 8), none⟩,
             ⟨some 28, .load true 5 (.tmp 9), none⟩,
             ⟨some 29, .call (.tmp 26) [(.tmp 27), (.tmp 28)], none⟩,
             ⟨some 30, .un .not (.tmp 29), none⟩]) (
          .cond (.tmp 30) (
            .seq (
             .ops [⟨some 6, .val (.val (.lit (.bool false))), none⟩]) (
            .ret)) (
            .skip)))))) (
       .ops [⟨some 31, .bin .add .num (.tmp 17) (.val (.lit (.int .i64 1))), none⟩,
         ⟨some 17, .val (.tmp 31), none⟩])))

def a_slices_EqualFunc_api_Expr_api_Expr_api_Expr_api_Expr : ACode :=
  .seq (
   .ops [⟨some 6, .val (.val (.lit (.bool false))), none⟩]) (
  .seq (
   .seq (
    .ops [⟨some 10, .val (.tmp 0), none⟩,
      ⟨some 11, .len 1 (.tmp 10), none⟩,
      ⟨some 12, .val (.tmp 1), none⟩,
      ⟨some 13, .len 1 (.tmp 12), none⟩,
      ⟨some 14, .bin .neq .num (.tmp 11) (.tmp 13), none⟩]) (
   .cond (.tmp 14) (
     .seq (
      .ops [⟨some 6, .val (.val (.lit (.bool false))), none⟩]) (
     .ret)) (
     .skip))) (
  .seq (
   .seq (
    .ops [⟨some 15, .val (.tmp 0), none⟩,
      ⟨some 16, .len 1 (.tmp 15), none⟩,
      ⟨some 17, .val (.val (.lit (.int .i64 0))), none⟩]) (
   .block 0 (
     .loop a_slices_EqualFunc_api_Expr_api_Expr_api_Expr_api_Exprb1))) (
  .seq (
   .ops [⟨some 6, .val (.val (.lit (.bool true))), none⟩]) (
  .ret))))

theorem c_slices_EqualFunc_api_Expr_api_Expr_api_Expr_api_Expr : codeOf Tryd.prog {  } 44 = some (a_slices_EqualFunc_api_Expr_api_Expr_api_Expr_api_Expr, [.tmp 6], 32) := by kernel_rfl

/-- slices.Equal[[]string,string] -/
def a_slices_Equal_string_stringb1 : ACode :=
       .seq (
        .ops [⟨some 14, .bin .lss .num (.tmp 13) (.tmp 12), none⟩]) (
       .seq (
        .cond (.tmp 14) (
          .skip) (
          .exit 0)) (
       .seq (
        .block 1 (
          .seq (
           .ops [⟨some 15, .val (.tmp 13), none⟩,
             ⟨some 5, .val (.tmp 15), none⟩]) (
          .seq (
           .ops [⟨some 16, .val (.tmp 0), none⟩,
             ⟨some 17, .val (.tmp 5), none⟩,
             ⟨some 18, .indexAddr 1 (.tmp 16) (.tmp 17), none⟩,
             ⟨some 20, .val (.tmp 1), none⟩,
             ⟨some 21, .val (.tmp 5), none⟩,
             ⟨some 22, .indexAddr 1 (.tmp 20) (.tmp 21), none⟩,
             ⟨some 19, .load false 1 (.tmp 18), none⟩,
             ⟨some 23, .load false 1 (.tmp 22), none⟩,
             ⟨some 24, .bin .neq .num (.tmp 19) (.tmp 23), none⟩]) (
          .cond (.tmp 24) (
            .seq (
             .ops [⟨some 4, .val (.val (.lit (.bool false))), none⟩]) (
            .ret)) (
            .skip))))) (
       .ops [⟨some 25, .bin .add .num (.tmp 13) (.val (.lit (.int .i64 1))), none⟩,
         ⟨some 13, .val (.tmp 25), none⟩])))

def a_slices_Equal_string_string : ACode :=
  .seq (
   .ops [⟨some 4, .val (.val (.lit (.bool false))), none⟩]) (
  .seq (
   .seq (
    .ops [⟨some 6, .val (.tmp 0), none⟩,
      ⟨some 7, .len 1 (.tmp 6), none⟩,
      ⟨some 8, .val (.tmp 1), none⟩,
      ⟨some 9, .len 1 (.tmp 8), none⟩,
      ⟨some 10, .bin .neq .num (.tmp 7) (.tmp 9), none⟩]) (
   .cond (.tmp 10) (
     .seq (
      .ops [⟨some 4, .val (.val (.lit (.bool false))), none⟩]) (
     .ret)) (
     .skip))) (
  .seq (
   .seq (
    .ops [⟨some 11, .val (.tmp 0), none⟩,
      ⟨some 12, .len 1 (.tmp 11), none⟩,
      ⟨some 13, .val (.val (.lit (.int .i64 0))), none⟩]) (
   .block 0 (
     .loop a_slices_Equal_string_stringb1))) (
  .seq (
   .ops [⟨some 4, .val (.val (.lit (.bool true))), none⟩]) (
  .ret))))

theorem c_slices_Equal_string_string : codeOf Tryd.prog {  } 37 = some (a_slices_Equal_string_string, [.tmp 4], 26) := by kernel_rfl

/-- bobbin/tree.all[bobbin/api.Decl] -/
def a_tree_all_api_Decl : ACode :=
  .seq (
   .ops [⟨some 3, .box false (.tmp 1), none⟩,
     ⟨some 4, .val (.val (.lit (.bool false))), none⟩]) (
  .seq (
   .ops [⟨some 5, .val (.tmp 0), none⟩,
     ⟨some 6, .mkfn (.func 51) [] [(.tmp 3)], none⟩,
     ⟨some 7, .call (.val (.fn (.func 50) [] [])) [(.tmp 5), (.tmp 6)], none⟩,
     ⟨some 8, .un .not (.tmp 7), none⟩,
     ⟨some 4, .val (.tmp 8), none⟩]) (
  .ret))

theorem c_tree_all_api_Decl : codeOf Tryd.prog {  } 29 = some (a_tree_all_api_Decl, [.tmp 4], 9) := by kernel_rfl

/-- bobbin/tree.all[bobbin/api.Decl]$1 -/
def a_tree_all_api_Decl_1 : ACode :=
  .seq (
   .ops [⟨some 2, .box true (.tmp 0), none⟩,
     ⟨some 3, .val (.val (.lit (.bool false))), none⟩]) (
  .seq (
   .ops [⟨some 4, .load false 1 (.tmp 1), none⟩,
     ⟨some 5, .iload true 6 (.tmp 2), none⟩,
     ⟨some 6, .call (.tmp 4) [(.tmp 5)], none⟩,
     ⟨some 7, .un .not (.tmp 6), none⟩,
     ⟨some 3, .val (.tmp 7), none⟩]) (
  .ret))

theorem c_tree_all_api_Decl_1 : codeOf Tryd.prog { bz := [2], il := [5] } 51 = some (a_tree_all_api_Decl_1, [.tmp 3], 8) := by kernel_rfl

/-- bobbin/tree.all[string] -/
def a_tree_all_string : ACode :=
  .seq (
   .ops [⟨some 3, .box false (.tmp 1), none⟩,
     ⟨some 4, .val (.val (.lit (.bool false))), none⟩]) (
  .seq (
   .ops [⟨some 5, .val (.tmp 0), none⟩,
     ⟨some 6, .mkfn (.func 74) [] [(.tmp 3)], none⟩,
     ⟨some 7, .call (.val (.fn (.func 73) [] [])) [(.tmp 5), (.tmp 6)], none⟩,
     ⟨some 8, .un .not (.tmp 7), none⟩,
     ⟨some 4, .val (.tmp 8), none⟩]) (
  .ret))

theorem c_tree_all_string : codeOf Tryd.prog {  } 52 = some (a_tree_all_string, [.tmp 4], 9) := by kernel_rfl

/-- bobbin/tree.all[string]$1 -/
def a_tree_all_string_1 : ACode :=
  .seq (
   .ops [⟨some 3, .val (.val (.lit (.bool false))), none⟩]) (
  .seq (
   .ops [⟨some 4, .load false 1 (.tmp 1), none⟩,
     ⟨some 5, .val (.tmp 0), none⟩,
     ⟨some 6, .call (.tmp 4) [(.tmp 5)], none⟩,
     ⟨some 7, .un .not (.tmp 6), none⟩,
     ⟨some 3, .val (.tmp 7), none⟩]) (
  .ret))

theorem c_tree_all_string_1 : codeOf Tryd.prog {  } 74 = some (a_tree_all_string_1, [.tmp 3], 8) := by kernel_rfl

/-- bobbin/tree.all[bobbin/api.Stmt] -/
def a_tree_all_api_Stmt : ACode :=
  .seq (
   .ops [⟨some 3, .box false (.tmp 1), none⟩,
     ⟨some 4, .val (.val (.lit (.bool false))), none⟩]) (
  .seq (
   .ops [⟨some 5, .val (.tmp 0), none⟩,
     ⟨some 6, .mkfn (.func 76) [] [(.tmp 3)], none⟩,
     ⟨some 7, .call (.val (.fn (.func 75) [] [])) [(.tmp 5), (.tmp 6)], none⟩,
     ⟨some 8, .un .not (.tmp 7), none⟩,
     ⟨some 4, .val (.tmp 8), none⟩]) (
  .ret))

theorem c_tree_all_api_Stmt : codeOf Tryd.prog {  } 53 = some (a_tree_all_api_Stmt, [.tmp 4], 9) := by kernel_rfl

/-- bobbin/tree.all[bobbin/api.Stmt]$1 -/
def a_tree_all_api_Stmt_1 : ACode :=
  .seq (
   .ops [⟨some 2, .box true (.tmp 0), none⟩,
     ⟨some 3, .val (.val (.lit (.bool false))), none⟩]) (
  .seq (
   .ops [⟨some 4, .load false 1 (.tmp 1), none⟩,
     ⟨some 5, .iload true 8 (.tmp 2), none⟩,
     ⟨some 6, .call (.tmp 4) [(.tmp 5)], none⟩,
     ⟨some 7, .un .not (.tmp 6), none⟩,
     ⟨some 3, .val (.tmp 7), none⟩]) (
  .ret))

theorem c_tree_all_api_Stmt_1 : codeOf Tryd.prog { bz := [2], il := [5] } 76 = some (a_tree_all_api_Stmt_1, [.tmp 3], 8) := by kernel_rfl

/-- bobbin/tree.all[bobbin/api.Expr] -/
def a_tree_all_api_Expr : ACode :=
  .seq (
   .ops [⟨some 3, .box false (.tmp 1), none⟩,
     ⟨some 4, .val (.val (.lit (.bool false))), none⟩]) (
  .seq (
   .ops [⟨some 5, .val (.tmp 0), none⟩,
     ⟨some 6, .mkfn (.func 63) [] [(.tmp 3)], none⟩,
     ⟨some 7, .call (.val (.fn (.func 62) [] [])) [(.tmp 5), (.tmp 6)], none⟩,
     ⟨some 8, .un .not (.tmp 7), none⟩,
     ⟨some 4, .val (.tmp 8), none⟩]) (
  .ret))

theorem c_tree_all_api_Expr : codeOf Tryd.prog {  } 42 = some (a_tree_all_api_Expr, [.tmp 4], 9) := by kernel_rfl

/-- bobbin/tree.all[bobbin/api.Expr]$1 -/
def a_tree_all_api_Expr_1 : ACode :=
  .seq (
   .ops [⟨some 2, .box true (.tmp 0), none⟩,
     ⟨some 3, .val (.val (.lit (.bool false))), none⟩]) (
  .seq (
   .ops [⟨some 4, .load false 1 (.tmp 1), none⟩,
     ⟨some 5, .iload true 5 (.tmp 2), none⟩,
     ⟨some 6, .call (.tmp 4) [(.tmp 5)], none⟩,
     ⟨some 7, .un .not (.tmp 6), none⟩,
     ⟨some 3, .val (.tmp 7), none⟩]) (
  .ret))

theorem c_tree_all_api_Expr_1 : codeOf Tryd.prog { bz := [2], il := [5] } 63 = some (a_tree_all_api_Expr_1, [.tmp 3], 8) := by kernel_rfl

/-- slices.ContainsFunc[[]bobbin/api.Decl,bobbin/api.Decl] -/
def a_slices_ContainsFunc_api_Decl_api_Decl : ACode :=
  .seq (
   .ops [⟨some 4, .val (.val (.lit (.bool false))), none⟩]) (
  .seq (
   .ops [⟨some 5, .val (.tmp 0), none⟩,
     ⟨some 6, .val (.tmp 1), none⟩,
     ⟨some 7, .call (.val (.fn (.func 72) [] [])) [(.tmp 5), (.tmp 6)], none⟩,
     ⟨some 8, .bin .geq .num (.tmp 7) (.val (.lit (.int .i64 0))), none⟩,
     ⟨some 4, .val (.tmp 8), none⟩]) (
  .ret))

theorem c_slices_ContainsFunc_api_Decl_api_Decl : codeOf Tryd.prog {  } 50 = some (a_slices_ContainsFunc_api_Decl_api_Decl, [.tmp 4], 9) := by kernel_rfl

/-- slices.IndexFunc[[]bobbin/api.Decl,bobbin/api.Decl] -/
def a_slices_IndexFunc_api_Decl_api_Declb1 : ACode :=
       .seq (
        .ops [⟨some 9, .bin .lss .num (.tmp 8) (.tmp 7), none⟩]) (
       .seq (
        .cond (.tmp 9) (
          .skip) (
          .exit 0)) (
       .seq (
        .block 1 (
          .seq (
           .ops [⟨some 10, .val (.tmp 8), none⟩,
             ⟨some 5, .val (.tmp 10), none⟩]) (
          .seq (
           .ops [⟨some 11, .val (.tmp 1), none⟩,
             ⟨some 12, .val (.tmp 0), none⟩,
             ⟨some 13, .val (.tmp 5), none⟩,
             ⟨some 14, .indexAddr 6 (.tmp 12) (.tmp 13), none⟩,
             ⟨some 15, .load true 6 (.tmp 14), none⟩,
             ⟨some 16, .call (.tmp 11) [(.tmp 15)], none⟩]) (
          .cond (.tmp 16) (
            .seq (
             .ops [⟨some 17, .val (.tmp 5), none⟩,
               ⟨some 4, .val (.tmp 17), none⟩]) (
            .ret)) (
            .skip))))) (
       .ops [⟨some 18, .bin .add .num (.tmp 8) (.val (.lit (.int .i64 1))), none⟩,
         ⟨some 8, .val (.tmp 18), none⟩])))

def a_slices_IndexFunc_api_Decl_api_Decl : ACode :=
  .seq (
   .ops [⟨some 4, .val (.val (.lit (.int .i64 0))), none⟩]) (
  .seq (
   .seq (
    .ops [⟨some 6, .val (.tmp 0), none⟩,
      ⟨some 7, .len 1 (.tmp 6), none⟩,
      ⟨some 8, .val (.val (.lit (.int .i64 0))), none⟩]) (
   .block 0 (
     .loop a_slices_IndexFunc_api_Decl_api_Declb1))) (
  .seq (
   .ops [⟨some 4, .val (.val (.lit (.int .i64 (-1)))), none⟩]) (
  .ret)))

theorem c_slices_IndexFunc_api_Decl_api_Decl : codeOf Tryd.prog {  } 72 = some (a_slices_IndexFunc_api_Decl_api_Decl, [.tmp 4], 19) := by kernel_rfl

/-- slices.ContainsFunc[[]bobbin/api.Stmt,bobbin/api.Stmt] -/
def a_slices_ContainsFunc_api_Stmt_api_Stmt : ACode :=
  .seq (
   .ops [⟨some 4, .val (.val (.lit (.bool false))), none⟩]) (
  .seq (
   .ops [⟨some 5, .val (.tmp 0), none⟩,
     ⟨some 6, .val (.tmp 1), none⟩,
     ⟨some 7, .call (.val (.fn (.func 85) [] [])) [(.tmp 5), (.tmp 6)], none⟩,
     ⟨some 8, .bin .geq .num (.tmp 7) (.val (.lit (.int .i64 0))), none⟩,
     ⟨some 4, .val (.tmp 8), none⟩]) (
  .ret))

theorem c_slices_ContainsFunc_api_Stmt_api_Stmt : codeOf Tryd.prog {  } 75 = some (a_slices_ContainsFunc_api_Stmt_api_Stmt, [.tmp 4], 9) := by kernel_rfl

/-- slices.IndexFunc[[]bobbin/api.Stmt,bobbin/api.Stmt] -/
def a_slices_IndexFunc_api_Stmt_api_Stmtb1 : ACode :=
       .seq (
        .ops [⟨some 9, .bin .lss .num (.tmp 8) (.tmp 7), none⟩]) (
       .seq (
        .cond (.tmp 9) (
          .skip) (
          .exit 0)) (
       .seq (
        .block 1 (
          .seq (
           .ops [⟨some 10, .val (.tmp 8), none⟩,
             ⟨some 5, .val (.tmp 10), none⟩]) (
          .seq (
           .ops [⟨some 11, .val (.tmp 1), none⟩,
             ⟨some 12, .val (.tmp 0), none⟩,
             ⟨some 13, .val (.tmp 5), none⟩,
             ⟨some 14, .indexAddr 8 (.tmp 12) (.tmp 13), none⟩,
             ⟨some 15, .load true 8 (.tmp 14), none⟩,
             ⟨some 16, .call (.tmp 11) [(.tmp 15)], none⟩]) (
          .cond (.tmp 16) (
            .seq (
             .ops [⟨some 17, .val (.tmp 5), none⟩,
               ⟨some 4, .val (.tmp 17), none⟩]) (
            .ret)) (
            .skip))))) (
       .ops [⟨some 18, .bin .add .num (.tmp 8) (.val (.lit (.int .i64 1))), none⟩,
         ⟨some 8, .val (.tmp 18), none⟩])))

def a_slices_IndexFunc_api_Stmt_api_Stmt : ACode :=
  .seq (
   .ops [⟨some 4, .val (.val (.lit (.int .i64 0))), none⟩]) (
  .seq (
   .seq (
    .ops [⟨some 6, .val (.tmp 0), none⟩,
      ⟨some 7, .len 1 (.tmp 6), none⟩,
      ⟨some 8, .val (.val (.lit (.int .i64 0))), none⟩]) (
   .block 0 (
     .loop a_slices_IndexFunc_api_Stmt_api_Stmtb1))) (
  .seq (
   .ops [⟨some 4, .val (.val (.lit (.int .i64 (-1)))), none⟩]) (
  .ret)))

theorem c_slices_IndexFunc_api_Stmt_api_Stmt : codeOf Tryd.prog {  } 85 = some (a_slices_IndexFunc_api_Stmt_api_Stmt, [.tmp 4], 19) := by kernel_rfl

/-- slices.ContainsFunc[[]bobbin/api.Expr,bobbin/api.Expr] -/
def a_slices_ContainsFunc_api_Expr_api_Expr : ACode :=
  .seq (
   .ops [⟨some 4, .val (.val (.lit (.bool false))), none⟩]) (
  .seq (
   .ops [⟨some 5, .val (.tmp 0), none⟩,
     ⟨some 6, .val (.tmp 1), none⟩,
     ⟨some 7, .call (.val (.fn (.func 79) [] [])) [(.tmp 5), (.tmp 6)], none⟩,
     ⟨some 8, .bin .geq .num (.tmp 7) (.val (.lit (.int .i64 0))), none⟩,
     ⟨some 4, .val (.tmp 8), none⟩]) (
  .ret))

theorem c_slices_ContainsFunc_api_Expr_api_Expr : codeOf Tryd.prog {  } 62 = some (a_slices_ContainsFunc_api_Expr_api_Expr, [.tmp 4], 9) := by kernel_rfl

/-- slices.IndexFunc[[]bobbin/api.Expr,bobbin/api.Expr] -/
def a_slices_IndexFunc_api_Expr_api_Exprb1 : ACode :=
       .seq (
        .ops [⟨some 9, .bin .lss .num (.tmp 8) (.tmp 7), none⟩]) (
       .seq (
        .cond (.tmp 9) (
          .skip) (
          .exit 0)) (
       .seq (
        .block 1 (
          .seq (
           .ops [⟨some 10, .val (.tmp 8), none⟩,
             ⟨some 5, .val (.tmp 10), none⟩]) (
          .seq (
           .ops [⟨some 11, .val (.tmp 1), none⟩,
             ⟨some 12, .val (.tmp 0), none⟩,
             ⟨some 13, .val (.tmp 5), none⟩,
             ⟨some 14, .indexAddr 5 (.tmp 12) (.tmp 13), none⟩,
             ⟨some 15, .load true 5 (.tmp 14), none⟩,
             ⟨some 16, .call (.tmp 11) [(.tmp 15)], none⟩]) (
          .cond (.tmp 16) (
            .seq (
             .ops [⟨some 17, .val (.tmp 5), none⟩,
               ⟨some 4, .val (.tmp 17), none⟩]) (
            .ret)) (
            .skip))))) (
       .ops [⟨some 18, .bin .add .num (.tmp 8) (.val (.lit (.int .i64 1))), none⟩,
         ⟨some 8, .val (.tmp 18), none⟩])))

def a_slices_IndexFunc_api_Expr_api_Expr : ACode :=
  .seq (
   .ops [⟨some 4, .val (.val (.lit (.int .i64 0))), none⟩]) (
  .seq (
   .seq (
    .ops [⟨some 6, .val (.tmp 0), none⟩,
      ⟨some 7, .len 1 (.tmp 6), none⟩,
      ⟨some 8, .val (.val (.lit (.int .i64 0))), none⟩]) (
   .block 0 (
     .loop a_slices_IndexFunc_api_Expr_api_Exprb1))) (
  .seq (
   .ops [⟨some 4, .val (.val (.lit (.int .i64 (-1)))), none⟩]) (
  .ret)))

theorem c_slices_IndexFunc_api_Expr_api_Expr : codeOf Tryd.prog {  } 79 = some (a_slices_IndexFunc_api_Expr_api_Expr, [.tmp 4], 19) := by kernel_rfl

/-- slices.ContainsFunc[[]string,string] -/
def a_slices_ContainsFunc_string_string : ACode :=
  .seq (
   .ops [⟨some 4, .val (.val (.lit (.bool false))), none⟩]) (
  .seq (
   .ops [⟨some 5, .val (.tmp 0), none⟩,
     ⟨some 6, .val (.tmp 1), none⟩,
     ⟨some 7, .call (.val (.fn (.func 84) [] [])) [(.tmp 5), (.tmp 6)], none⟩,
     ⟨some 8, .bin .geq .num (.tmp 7) (.val (.lit (.int .i64 0))), none⟩,
     ⟨some 4, .val (.tmp 8), none⟩]) (
  .ret))

theorem c_slices_ContainsFunc_string_string : codeOf Tryd.prog {  } 73 = some (a_slices_ContainsFunc_string_string, [.tmp 4], 9) := by kernel_rfl

/-- slices.IndexFunc[[]string,string] -/
def a_slices_IndexFunc_string_stringb1 : ACode :=
       .seq (
        .ops [⟨some 9, .bin .lss .num (.tmp 8) (.tmp 7), none⟩]) (
       .seq (
        .cond (.tmp 9) (
          .skip) (
          .exit 0)) (
       .seq (
        .block 1 (
          .seq (
           .ops [⟨some 10, .val (.tmp 8), none⟩,
             ⟨some 5, .val (.tmp 10), none⟩]) (
          .seq (
           .ops [⟨some 11, .val (.tmp 1), none⟩,
             ⟨some 12, .val (.tmp 0), none⟩,
             ⟨some 13, .val (.tmp 5), none⟩,
             ⟨some 14, .indexAddr 1 (.tmp 12) (.tmp 13), none⟩,
             ⟨some 15, .load false 1 (.tmp 14), none⟩,
             ⟨some 16, .call (.tmp 11) [(.tmp 15)], none⟩]) (
          .cond (.tmp 16) (
            .seq (
             .ops [⟨some 17, .val (.tmp 5), none⟩,
               ⟨some 4, .val (.tmp 17), none⟩]) (
            .ret)) (
            .skip))))) (
       .ops [⟨some 18, .bin .add .num (.tmp 8) (.val (.lit (.int .i64 1))), none⟩,
         ⟨some 8, .val (.tmp 18), none⟩])))

def a_slices_IndexFunc_string_string : ACode :=
  .seq (
   .ops [⟨some 4, .val (.val (.lit (.int .i64 0))), none⟩]) (
  .seq (
   .seq (
    .ops [⟨some 6, .val (.tmp 0), none⟩,
      ⟨some 7, .len 1 (.tmp 6), none⟩,
      ⟨some 8, .val (.val (.lit (.int .i64 0))), none⟩]) (
   .block 0 (
     .loop a_slices_IndexFunc_string_stringb1))) (
  .seq (
   .ops [⟨some 4, .val (.val (.lit (.int .i64 (-1)))), none⟩]) (
  .ret)))

theorem c_slices_IndexFunc_string_string : codeOf Tryd.prog {  } 84 = some (a_slices_IndexFunc_string_string, [.tmp 4], 19) := by kernel_rfl

end Go.Proofs.YtebopfpgicamiaaDoor
