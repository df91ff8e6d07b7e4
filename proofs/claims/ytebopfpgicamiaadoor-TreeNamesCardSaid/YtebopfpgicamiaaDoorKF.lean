/- The code of functions, compiled (printed by wip/tools/kp.py). -/
import Derived.Test.YtebopfpgicamiaaDoorProg
import Derived.Test.YtebopfpgicamiaaDoorM3
namespace Go.Proofs.YtebopfpgicamiaaDoor
set_option linter.unusedSimpArgs false
set_option linter.unusedVariables false
open Go Go.Fw
/-- bobbin/bobbinlaw02.TreeSame -/
def a_ts_body : ACode :=
           .ops [⟨some 33, .val (.tmp 0), none⟩,
             ⟨some 34, .val (.tmp 8), none⟩,
             ⟨some 35, .indexAddr 6 (.tmp 33) (.tmp 34), none⟩,
             ⟨some 36, .fieldAddr 4 (.tmp 35), none⟩,
             ⟨some 37, .load false 1 (.tmp 36), none⟩,
             ⟨some 38, .val (.tmp 2), none⟩,
             ⟨some 39, .call (.val (.fn (.func 27) [] [])) [(.tmp 37), (.tmp 38)], none⟩,
             ⟨some 40, .fieldAddr 4 (.tmp 9), none⟩,
             ⟨none, .store 1 (.tmp 40) (.tmp 39), none⟩]

def a_bobbinlaw02_TreeSameb1 : ACode :=
       .seq (
        .seq (
         .ops [⟨some 21, .val (.tmp 8), none⟩,
           ⟨some 22, .val (.tmp 0), none⟩,
           ⟨some 23, .len 1 (.tmp 22), none⟩,
           ⟨some 24, .bin .lss .num (.tmp 21) (.tmp 23), none⟩]) (
        .cond (.tmp 24) (
          .skip) (
          .exit 0))) (
       .seq (
        .block 1 (
          .seq (
           .ops [⟨some 27, .val (.tmp 0), none⟩,
             ⟨some 28, .val (.tmp 8), none⟩,
             ⟨some 29, .indexAddr 6 (.tmp 27) (.tmp 28), none⟩,
             ⟨some 30, .load true 6 (.tmp 29), none⟩,
             ⟨some 9, .alloc [(.lit (.int .u8 0)), (.lit (.string ⟨#[]⟩)), (.lit (.int .i64 0)), (.sl .nil 0 []), (.sl .nil 0 []), (.lit (.int .i64 0))], none⟩,
             ⟨none, .store 6 (.tmp 9) (.tmp 30), none⟩]) (
          .seq (
           .ops [⟨some 31, .val (.tmp 2), none⟩,
             ⟨some 32, .fieldAddr 5 (.tmp 9), none⟩,
             ⟨none, .store 1 (.tmp 32) (.tmp 31), none⟩]) (
          .seq a_ts_body (
          .ops [⟨some 41, .val (.tmp 7), none⟩,
            ⟨some 42, .load true 6 (.tmp 9), none⟩,
            ⟨some 43, .bslice false 6 1 [(.lit (.int .u8 0)), (.lit (.string ⟨#[]⟩)), (.lit (.int .i64 0)), (.sl .nil 0 []), (.sl .nil 0 []), (.lit (.int .i64 0))] [(0, 6, (.tmp 42))], none⟩,
            ⟨some 44, .append false 6 88 (.tmp 41) (.tmp 43), none⟩,
            ⟨some 7, .val (.tmp 44), none⟩]))))) (
       .ops [⟨some 25, .val (.tmp 8), none⟩,
         ⟨some 26, .bin .add .num (.tmp 25) (.val (.lit (.int .i64 1))), none⟩,
         ⟨some 8, .val (.tmp 26), none⟩]))

def o_tsa0 : List AOper :=
     [⟨some 45, .val (.tmp 0), none⟩,
      ⟨some 46, .val (.tmp 0), none⟩,
      ⟨some 47, .call (.val (.fn (.func 17) [] [])) [(.tmp 45), (.tmp 46)], none⟩,
      ⟨some 48, .un .not (.tmp 47), none⟩,
      ⟨some 49, .val (.tmp 48), none⟩,
      ⟨some 50, .val (.tmp 0), some (49, false)⟩,
      ⟨some 51, .val (.tmp 7), some (49, false)⟩,
      ⟨some 52, .call (.val (.fn (.func 17) [] [])) [(.tmp 50), (.tmp 51)], some (49, false)⟩,
      ⟨some 53, .un .not (.tmp 52), some (49, false)⟩,
      ⟨some 54, .pick (.tmp 49) (.val (.lit (.bool true))) (.tmp 53), none⟩]

def o_tsa1 : List AOper :=
     [⟨some 55, .val (.tmp 54), none⟩,
      ⟨some 56, .val (.tmp 7), some (55, false)⟩,
      ⟨some 57, .val (.tmp 0), some (55, false)⟩,
      ⟨some 58, .call (.val (.fn (.func 17) [] [])) [(.tmp 56), (.tmp 57)], some (55, false)⟩,
      ⟨some 59, .un .not (.tmp 58), some (55, false)⟩,
      ⟨some 60, .pick (.tmp 55) (.val (.lit (.bool true))) (.tmp 59), none⟩]

def o_tsa2 : List AOper :=
     [⟨some 61, .val (.tmp 60), none⟩,
      ⟨some 62, .val (.tmp 0), some (61, false)⟩,
      ⟨some 63, .val (.tmp 1), some (61, false)⟩,
      ⟨some 64, .call (.val (.fn (.func 17) [] [])) [(.tmp 62), (.tmp 63)], some (61, false)⟩,
      ⟨some 65, .val (.tmp 1), some (61, false)⟩,
      ⟨some 66, .val (.tmp 0), some (61, false)⟩,
      ⟨some 67, .call (.val (.fn (.func 17) [] [])) [(.tmp 65), (.tmp 66)], some (61, false)⟩,
      ⟨some 68, .bin .neq .bool (.tmp 64) (.tmp 67), some (61, false)⟩,
      ⟨some 69, .pick (.tmp 61) (.val (.lit (.bool true))) (.tmp 68), none⟩]

def o_tsa3 : List AOper :=
     [⟨some 70, .val (.tmp 69), none⟩,
      ⟨some 71, .val (.tmp 0), some (70, false)⟩,
      ⟨some 72, .val (.tmp 1), some (70, false)⟩,
      ⟨some 73, .call (.val (.fn (.func 17) [] [])) [(.tmp 71), (.tmp 72)], some (70, false)⟩,
      ⟨some 74, .val (.tmp 7), some (70, false)⟩,
      ⟨some 75, .val (.tmp 1), some (70, false)⟩,
      ⟨some 76, .call (.val (.fn (.func 17) [] [])) [(.tmp 74), (.tmp 75)], some (70, false)⟩,
      ⟨some 77, .bin .neq .bool (.tmp 73) (.tmp 76), some (70, false)⟩,
      ⟨some 78, .pick (.tmp 70) (.val (.lit (.bool true))) (.tmp 77), none⟩]

def o_tsb0 : List AOper :=
     [⟨some 79, .val (.tmp 0), none⟩,
      ⟨some 80, .val (.tmp 1), none⟩,
      ⟨some 81, .call (.val (.fn (.func 17) [] [])) [(.tmp 79), (.tmp 80)], none⟩,
      ⟨some 82, .val (.tmp 81), none⟩,
      ⟨some 83, .val (.tmp 0), some (82, true)⟩,
      ⟨some 84, .call (.val (.fn (.func 11) [] [])) [(.tmp 83)], some (82, true)⟩,
      ⟨some 85, .val (.tmp 1), some (82, true)⟩,
      ⟨some 86, .call (.val (.fn (.func 11) [] [])) [(.tmp 85)], some (82, true)⟩,
      ⟨some 87, .bin .neq .bool (.tmp 84) (.tmp 86), some (82, true)⟩]

def o_tsb1 : List AOper :=
     [⟨some 88, .val (.tmp 87), some (82, true)⟩,
      ⟨some 89, .val (.tmp 0), some (88, false)⟩,
      ⟨some 90, .call (.val (.fn (.func 13) [] [])) [(.tmp 89)], some (88, false)⟩,
      ⟨some 91, .val (.tmp 1), some (88, false)⟩,
      ⟨some 92, .call (.val (.fn (.func 13) [] [])) [(.tmp 91)], some (88, false)⟩,
      ⟨some 93, .bin .neq .num (.tmp 90) (.tmp 92), some (88, false)⟩,
      ⟨some 94, .pick (.tmp 88) (.val (.lit (.bool true))) (.tmp 93), some (82, true)⟩]

def o_tsb2 : List AOper :=
     [⟨some 95, .val (.tmp 94), some (82, true)⟩,
      ⟨some 96, .val (.tmp 0), some (95, false)⟩,
      ⟨some 97, .call (.val (.fn (.func 15) [] [])) [(.tmp 96)], some (95, false)⟩,
      ⟨some 98, .val (.tmp 1), some (95, false)⟩,
      ⟨some 99, .call (.val (.fn (.func 15) [] [])) [(.tmp 98)], some (95, false)⟩,
      ⟨some 100, .bin .neq .num (.tmp 97) (.tmp 99), some (95, false)⟩,
      ⟨some 101, .pick (.tmp 95) (.val (.lit (.bool true))) (.tmp 100), some (82, true)⟩,
      ⟨some 102, .pick (.tmp 82) (.tmp 101) (.val (.lit (.bool false))), none⟩]

def o_tsc0 : List AOper :=
     [⟨some 103, .val (.tmp 0), none⟩,
     ⟨some 104, .call (.val (.fn (.func 11) [] [])) [(.tmp 103)], none⟩,
     ⟨some 105, .val (.tmp 7), none⟩,
     ⟨some 106, .call (.val (.fn (.func 11) [] [])) [(.tmp 105)], none⟩,
     ⟨some 107, .bin .eql .bool (.tmp 104) (.tmp 106), none⟩]

def o_tsc1 : List AOper :=
     [⟨some 108, .val (.tmp 107), none⟩,
     ⟨some 109, .val (.tmp 0), some (108, true)⟩,
     ⟨some 110, .call (.val (.fn (.func 13) [] [])) [(.tmp 109)], some (108, true)⟩,
     ⟨some 111, .val (.tmp 7), some (108, true)⟩,
     ⟨some 112, .call (.val (.fn (.func 13) [] [])) [(.tmp 111)], some (108, true)⟩,
     ⟨some 113, .bin .eql .num (.tmp 110) (.tmp 112), some (108, true)⟩,
     ⟨some 114, .pick (.tmp 108) (.tmp 113) (.val (.lit (.bool false))), none⟩]

def o_tsc2 : List AOper :=
     [⟨some 115, .val (.tmp 114), none⟩,
     ⟨some 116, .val (.tmp 0), some (115, true)⟩,
     ⟨some 117, .call (.val (.fn (.func 15) [] [])) [(.tmp 116)], some (115, true)⟩,
     ⟨some 118, .val (.tmp 7), some (115, true)⟩,
     ⟨some 119, .call (.val (.fn (.func 15) [] [])) [(.tmp 118)], some (115, true)⟩,
     ⟨some 120, .bin .eql .num (.tmp 117) (.tmp 119), some (115, true)⟩,
     ⟨some 121, .pick (.tmp 115) (.tmp 120) (.val (.lit (.bool false))), none⟩,
     ⟨some 6, .val (.tmp 121), none⟩]

def a_bobbinlaw02_TreeSame : ACode :=
  .seq (
   .ops [⟨some 6, .val (.val (.lit (.bool false))), none⟩]) (
  .seq (
   .seq (
    .ops [⟨some 10, .val (.tmp 0), none⟩,
      ⟨some 11, .call (.val (.fn (.func 8) [] [])) [(.tmp 10)], none⟩,
      ⟨some 12, .val (.tmp 11), none⟩,
      ⟨some 13, .val (.tmp 1), some (12, false)⟩,
      ⟨some 14, .call (.val (.fn (.func 8) [] [])) [(.tmp 13)], some (12, false)⟩,
      ⟨some 15, .pick (.tmp 12) (.val (.lit (.bool true))) (.tmp 14), none⟩,
      ⟨some 16, .val (.tmp 15), none⟩,
      ⟨some 17, .call (.val (.fn (.func 10) [] [])) [], some (16, false)⟩,
      ⟨some 18, .un .not (.tmp 17), some (16, false)⟩,
      ⟨some 19, .pick (.tmp 16) (.val (.lit (.bool true))) (.tmp 18), none⟩]) (
   .cond (.tmp 19) (
     .seq (
      .ops [⟨some 20, .call (.val (.fn (.func 10) [] [])) [], none⟩,
        ⟨some 6, .val (.tmp 20), none⟩]) (
     .ret)) (
     .skip))) (
  .seq (
   .ops [⟨some 7, .val (.val (.sl .nil 0 [])), none⟩]) (
  .seq (
   .seq (
    .ops [⟨some 8, .val (.val (.lit (.int .i64 0))), none⟩]) (
   .block 0 (
     .loop a_bobbinlaw02_TreeSameb1))) (
  .seq (
   .seq (
    .ops (o_tsa0 ++ (o_tsa1 ++ (o_tsa2 ++ o_tsa3)))) (
   .cond (.tmp 78) (
     .seq (
      .ops [⟨some 6, .val (.val (.lit (.bool false))), none⟩]) (
     .ret)) (
     .skip))) (
  .seq (
   .seq (
    .ops (o_tsb0 ++ (o_tsb1 ++ o_tsb2))) (
   .cond (.tmp 102) (
     .seq (
      .ops [⟨some 6, .val (.val (.lit (.bool false))), none⟩]) (
     .ret)) (
     .skip))) (
  .seq (
   .ops (o_tsc0 ++ (o_tsc1 ++ o_tsc2))) (
  .ret)))))))

theorem c_bobbinlaw02_TreeSame : codeOf Tryd.prog {  } 6 = some (a_bobbinlaw02_TreeSame, [.tmp 6], 122) := by kernel_rfl

/-- bobbin/bobbinlaw02.place -/
def a_bobbinlaw02_placeb1 : ACode :=
               .seq (
                .seq (
                 .ops [⟨some 22, .val (.tmp 8), none⟩,
                   ⟨some 23, .val (.tmp 0), none⟩,
                   ⟨some 24, .val (.tmp 6), none⟩,
                   ⟨some 25, .indexAddr 8 (.tmp 23) (.tmp 24), none⟩,
                   ⟨some 26, .fieldAddr 4 (.tmp 25), none⟩,
                   ⟨some 27, .load false 1 (.tmp 26), none⟩,
                   ⟨some 28, .len 1 (.tmp 27), none⟩,
                   ⟨some 29, .bin .lss .num (.tmp 22) (.tmp 28), none⟩]) (
                .cond (.tmp 29) (
                  .skip) (
                  .exit 2))) (
               .seq (
                .block 3 (
                  .ops [⟨some 32, .fieldAddr 4 (.tmp 7), none⟩,
                    ⟨some 34, .val (.tmp 0), none⟩,
                    ⟨some 35, .val (.tmp 6), none⟩,
                    ⟨some 36, .indexAddr 8 (.tmp 34) (.tmp 35), none⟩,
                    ⟨some 37, .fieldAddr 4 (.tmp 36), none⟩,
                    ⟨some 39, .val (.tmp 8), none⟩,
                    ⟨some 42, .val (.tmp 1), none⟩,
                    ⟨some 33, .load false 1 (.tmp 32), none⟩,
                    ⟨some 38, .load false 1 (.tmp 37), none⟩,
                    ⟨some 40, .indexAddr 5 (.tmp 38) (.tmp 39), none⟩,
                    ⟨some 41, .load true 5 (.tmp 40), none⟩,
                    ⟨some 43, .pcall (.val (.fn (.func 49) [] [])) [(.tmp 41), (.tmp 42)], none⟩,
                    ⟨some 44, .bslice false 5 1 [(.lit (.int .u8 0)), (.lit (.string ⟨#[]⟩)), (.lit (.int .i64 0)), (.sl .nil 0 []), (.lit (.int .i64 0))] [(0, 5, (.tmp 43))], none⟩,
                    ⟨some 45, .append false 5 64 (.tmp 33) (.tmp 44), none⟩,
                    ⟨some 46, .fieldAddr 4 (.tmp 7), none⟩,
                    ⟨none, .store 1 (.tmp 46) (.tmp 45), none⟩])) (
               .ops [⟨some 30, .val (.tmp 8), none⟩,
                 ⟨some 31, .bin .add .num (.tmp 30) (.val (.lit (.int .i64 1))), none⟩,
                 ⟨some 8, .val (.tmp 31), none⟩]))

def a_place_kids : ACode :=
           .ops [⟨some 47, .val (.tmp 0), none⟩,
             ⟨some 48, .val (.tmp 6), none⟩,
             ⟨some 49, .indexAddr 8 (.tmp 47) (.tmp 48), none⟩,
             ⟨some 50, .fieldAddr 5 (.tmp 49), none⟩,
             ⟨some 52, .val (.tmp 1), none⟩,
             ⟨some 54, .val (.tmp 0), none⟩,
             ⟨some 55, .val (.tmp 6), none⟩,
             ⟨some 56, .indexAddr 8 (.tmp 54) (.tmp 55), none⟩,
             ⟨some 57, .fieldAddr 6 (.tmp 56), none⟩,
             ⟨some 58, .iload false 1 (.tmp 57), none⟩,
             ⟨some 59, .val (.tmp 1), none⟩,
             ⟨some 51, .load false 1 (.tmp 50), none⟩,
             ⟨some 53, .pcall (.val (.fn (.func 27) [] [])) [(.tmp 51), (.tmp 52)], none⟩,
             ⟨some 60, .pcall (.val (.fn (.func 27) [] [])) [(.tmp 58), (.tmp 59)], none⟩,
             ⟨some 61, .fieldAddr 5 (.tmp 7), none⟩,
             ⟨none, .store 1 (.tmp 61) (.tmp 53), none⟩,
             ⟨some 62, .fieldAddr 6 (.tmp 7), none⟩,
             ⟨none, .store 1 (.tmp 62) (.tmp 60), none⟩]

def a_bobbinlaw02_placeb2 : ACode :=
       .seq (
        .seq (
         .ops [⟨some 9, .val (.tmp 6), none⟩,
           ⟨some 10, .val (.tmp 0), none⟩,
           ⟨some 11, .len 1 (.tmp 10), none⟩,
           ⟨some 12, .bin .lss .num (.tmp 9) (.tmp 11), none⟩]) (
        .cond (.tmp 12) (
          .skip) (
          .exit 0))) (
       .seq (
        .block 1 (
          .seq (
           .ops [⟨some 15, .val (.tmp 0), none⟩,
             ⟨some 16, .val (.tmp 6), none⟩,
             ⟨some 17, .indexAddr 8 (.tmp 15) (.tmp 16), none⟩,
             ⟨some 18, .load true 8 (.tmp 17), none⟩,
             ⟨some 7, .alloc [(.lit (.int .u8 0)), (.lit (.string ⟨#[]⟩)), (.lit (.string ⟨#[]⟩)), (.lit (.bool false)), (.sl .nil 0 []), (.sl .nil 0 []), (.sl .nil 0 []), (.lit (.int .i64 0))], none⟩,
             ⟨none, .store 8 (.tmp 7) (.tmp 18), none⟩]) (
          .seq (
           .ops [⟨some 19, .val (.tmp 1), none⟩,
             ⟨some 20, .fieldAddr 7 (.tmp 7), none⟩,
             ⟨none, .store 1 (.tmp 20) (.tmp 19), none⟩]) (
          .seq (
           .ops [⟨some 21, .fieldAddr 4 (.tmp 7), none⟩,
             ⟨none, .store 1 (.tmp 21) (.val (.sl .nil 0 [])), none⟩]) (
          .seq (
           .seq (
            .ops [⟨some 8, .val (.val (.lit (.int .i64 0))), none⟩]) (
           .block 2 (
             .loop a_bobbinlaw02_placeb1))) (
          .seq a_place_kids (
          .ops [⟨some 63, .val (.tmp 5), none⟩,
            ⟨some 64, .load true 8 (.tmp 7), none⟩,
            ⟨some 65, .bslice false 8 1 [(.lit (.int .u8 0)), (.lit (.string ⟨#[]⟩)), (.lit (.string ⟨#[]⟩)), (.lit (.bool false)), (.sl .nil 0 []), (.sl .nil 0 []), (.sl .nil 0 []), (.lit (.int .i64 0))] [(0, 8, (.tmp 64))], none⟩,
            ⟨some 66, .append false 8 128 (.tmp 63) (.tmp 65), none⟩,
            ⟨some 5, .val (.tmp 66), none⟩]))))))) (
       .ops [⟨some 13, .val (.tmp 6), none⟩,
         ⟨some 14, .bin .add .num (.tmp 13) (.val (.lit (.int .i64 1))), none⟩,
         ⟨some 6, .val (.tmp 14), none⟩]))

def a_bobbinlaw02_place : ACode :=
  .seq (
   .ops [⟨some 4, .val (.val (.sl .nil 0 [])), none⟩]) (
  .seq (
   .ops [⟨some 5, .val (.val (.sl .nil 0 [])), none⟩]) (
  .seq (
   .seq (
    .ops [⟨some 6, .val (.val (.lit (.int .i64 0))), none⟩]) (
   .block 0 (
     .loop a_bobbinlaw02_placeb2))) (
  .seq (
   .ops [⟨some 67, .val (.tmp 5), none⟩,
     ⟨some 4, .val (.tmp 67), none⟩]) (
  .ret))))

theorem c_bobbinlaw02_place : codeOf Tryd.prog { pc := [43, 53, 60], il := [58] } 27 = some (a_bobbinlaw02_place, [.tmp 4], 68) := by kernel_rfl

/-- bobbin/bobbinlaw02.placed -/
def a_bobbinlaw02_placedb1 : ACode :=
       .seq (
        .seq (
         .ops [⟨some 11, .val (.tmp 6), none⟩,
           ⟨some 12, .fieldAddr 3 (.tmp 2), none⟩,
           ⟨some 13, .iload false 1 (.tmp 12), none⟩,
           ⟨some 14, .len 1 (.tmp 13), none⟩,
           ⟨some 15, .bin .lss .num (.tmp 11) (.tmp 14), none⟩]) (
        .cond (.tmp 15) (
          .skip) (
          .exit 0))) (
       .seq (
        .block 1 (
          .ops [⟨some 18, .fieldAddr 3 (.tmp 5), none⟩,
            ⟨some 20, .fieldAddr 3 (.tmp 2), none⟩,
            ⟨some 21, .iload false 1 (.tmp 20), none⟩,
            ⟨some 22, .val (.tmp 6), none⟩,
            ⟨some 23, .indexAddr 5 (.tmp 21) (.tmp 22), none⟩,
            ⟨some 25, .val (.tmp 1), none⟩,
            ⟨some 19, .load false 1 (.tmp 18), none⟩,
            ⟨some 24, .load true 5 (.tmp 23), none⟩,
            ⟨some 26, .pcall (.val (.fn (.func 49) [] [])) [(.tmp 24), (.tmp 25)], none⟩,
            ⟨some 27, .bslice false 5 1 [(.lit (.int .u8 0)), (.lit (.string ⟨#[]⟩)), (.lit (.int .i64 0)), (.sl .nil 0 []), (.lit (.int .i64 0))] [(0, 5, (.tmp 26))], none⟩,
            ⟨some 28, .append false 5 64 (.tmp 19) (.tmp 27), none⟩,
            ⟨some 29, .fieldAddr 3 (.tmp 5), none⟩,
            ⟨none, .store 1 (.tmp 29) (.tmp 28), none⟩])) (
       .ops [⟨some 16, .val (.tmp 6), none⟩,
         ⟨some 17, .bin .add .num (.tmp 16) (.val (.lit (.int .i64 1))), none⟩,
         ⟨some 6, .val (.tmp 17), none⟩]))

def a_bobbinlaw02_placed : ACode :=
  .seq (
   .ops [⟨some 2, .box true (.tmp 0), none⟩,
     ⟨some 4, .alloc [(.lit (.int .u8 0)), (.lit (.string ⟨#[]⟩)), (.lit (.int .i64 0)), (.sl .nil 0 []), (.lit (.int .i64 0))], none⟩]) (
  .seq (
   .ops [⟨some 7, .iload true 5 (.tmp 2), none⟩,
     ⟨some 5, .alloc [(.lit (.int .u8 0)), (.lit (.string ⟨#[]⟩)), (.lit (.int .i64 0)), (.sl .nil 0 []), (.lit (.int .i64 0))], none⟩,
     ⟨none, .store 5 (.tmp 5) (.tmp 7), none⟩]) (
  .seq (
   .ops [⟨some 8, .val (.tmp 1), none⟩,
     ⟨some 9, .fieldAddr 4 (.tmp 5), none⟩,
     ⟨none, .store 1 (.tmp 9) (.tmp 8), none⟩]) (
  .seq (
   .ops [⟨some 10, .fieldAddr 3 (.tmp 5), none⟩,
     ⟨none, .store 1 (.tmp 10) (.val (.sl .nil 0 [])), none⟩]) (
  .seq (
   .seq (
    .ops [⟨some 6, .val (.val (.lit (.int .i64 0))), none⟩]) (
   .block 0 (
     .loop a_bobbinlaw02_placedb1))) (
  .seq (
   .ops [⟨some 30, .load true 5 (.tmp 5), none⟩,
     ⟨none, .store 5 (.tmp 4) (.tmp 30), none⟩]) (
  .ret))))))

theorem c_bobbinlaw02_placed : codeOf Tryd.prog { pc := [26], bz := [2], il := [7, 13, 21] } 49 = some (a_bobbinlaw02_placed, [.cell 4 5 true], 31) := by kernel_rfl

end Go.Proofs.YtebopfpgicamiaaDoor
