/- The code of functions, compiled (printed by wip/tools/kp.py). -/
import Derived.Test.YtebopfpgicamiaaDoorProg
import Derived.Test.YtebopfpgicamiaaDoorM3
namespace Go.Proofs.YtebopfpgicamiaaDoor
set_option linter.unusedSimpArgs false
set_option linter.unusedVariables false
open Go Go.Fw
/-- bobbin/bobbinlaw02.TreeAlone -/
def o_tal0 : List AOper :=
     [⟨some 35, .val (.tmp 3), none⟩,
     ⟨some 37, .iload true 5 (.tmp 1), none⟩,
     ⟨some 36, .call (.val (.fn (.func 11) [] [])) [(.tmp 35)], none⟩,
     ⟨some 38, .call (.val (.fn (.func 19) [] [])) [(.tmp 37)], none⟩,
     ⟨some 39, .val (.tmp 38), none⟩,
     ⟨some 40, .val (.tmp 6), some (39, true)⟩,
     ⟨some 41, .bin .leq .num (.tmp 40) (.val (.lit (.int .i64 60))), some (39, true)⟩,
     ⟨some 42, .pick (.tmp 39) (.tmp 41) (.val (.lit (.bool false))), none⟩,
     ⟨some 43, .bin .eql .bool (.tmp 36) (.tmp 42), none⟩]

def o_tal1 : List AOper :=
     [⟨some 44, .val (.tmp 43), none⟩,
     ⟨some 45, .val (.tmp 4), some (44, true)⟩,
     ⟨some 47, .val (.tmp 3), some (44, true)⟩,
     ⟨some 46, .call (.val (.fn (.func 11) [] [])) [(.tmp 45)], some (44, true)⟩,
     ⟨some 48, .call (.val (.fn (.func 11) [] [])) [(.tmp 47)], some (44, true)⟩,
     ⟨some 49, .bin .eql .bool (.tmp 46) (.tmp 48), some (44, true)⟩,
     ⟨some 50, .pick (.tmp 44) (.tmp 49) (.val (.lit (.bool false))), none⟩]

def o_tal2 : List AOper :=
     [⟨some 51, .val (.tmp 50), none⟩,
     ⟨some 52, .val (.tmp 4), some (51, true)⟩,
     ⟨some 54, .val (.tmp 5), some (51, true)⟩,
     ⟨some 55, .bin .mul .num (.val (.lit (.int .i64 2))) (.tmp 54), some (51, true)⟩,
     ⟨some 53, .call (.val (.fn (.func 15) [] [])) [(.tmp 52)], some (51, true)⟩,
     ⟨some 56, .bin .eql .num (.tmp 53) (.tmp 55), some (51, true)⟩,
     ⟨some 57, .pick (.tmp 51) (.tmp 56) (.val (.lit (.bool false))), none⟩]

def o_tal3 : List AOper :=
     [⟨some 58, .val (.tmp 57), none⟩,
     ⟨some 59, .val (.tmp 4), some (58, true)⟩,
     ⟨some 61, .val (.tmp 6), some (58, true)⟩,
     ⟨some 60, .call (.val (.fn (.func 13) [] [])) [(.tmp 59)], some (58, true)⟩,
     ⟨some 62, .bin .eql .num (.tmp 60) (.tmp 61), some (58, true)⟩,
     ⟨some 63, .pick (.tmp 58) (.tmp 62) (.val (.lit (.bool false))), none⟩,
     ⟨some 64, .val (.tmp 63), none⟩]

def o_tal4 : List AOper :=
     [⟨some 65, .val (.tmp 5), some (64, true)⟩,
     ⟨some 66, .bin .gtr .num (.tmp 65) (.val (.lit (.int .i64 2))), some (64, true)⟩,
     ⟨some 67, .pick (.tmp 64) (.tmp 66) (.val (.lit (.bool false))), none⟩,
     ⟨some 68, .val (.tmp 67), none⟩,
     ⟨some 69, .val (.tmp 6), some (68, true)⟩,
     ⟨some 70, .bin .gtr .num (.tmp 69) (.val (.lit (.int .i64 1))), some (68, true)⟩,
     ⟨some 71, .pick (.tmp 68) (.tmp 70) (.val (.lit (.bool false))), none⟩,
     ⟨some 72, .val (.tmp 71), none⟩,
     ⟨some 73, .iload true 5 (.tmp 1), some (72, true)⟩,
     ⟨some 74, .iload true 5 (.tmp 1), some (72, true)⟩,
     ⟨some 75, .call (.val (.fn (.func 21) [] [])) [(.tmp 73), (.tmp 74)], some (72, true)⟩,
     ⟨some 76, .pick (.tmp 72) (.tmp 75) (.val (.lit (.bool false))), none⟩,
     ⟨some 2, .val (.tmp 76), none⟩]

def a_bobbinlaw02_TreeAlone : ACode :=
  .seq (
   .ops [⟨some 1, .box true (.tmp 0), none⟩,
     ⟨some 2, .val (.val (.lit (.bool false))), none⟩]) (
  .seq (
   .seq (
    .ops [⟨some 7, .iload true 5 (.tmp 1), none⟩,
      ⟨some 8, .call (.val (.fn (.func 9) [] [])) [(.tmp 7)], none⟩,
      ⟨some 9, .bin .gtr .num (.tmp 8) (.val (.lit (.int .i64 2000))), none⟩,
      ⟨some 10, .val (.tmp 9), none⟩,
      ⟨some 11, .call (.val (.fn (.func 10) [] [])) [], some (10, false)⟩,
      ⟨some 12, .un .not (.tmp 11), some (10, false)⟩,
      ⟨some 13, .pick (.tmp 10) (.val (.lit (.bool true))) (.tmp 12), none⟩]) (
   .cond (.tmp 13) (
     .seq (
      .ops [⟨some 14, .call (.val (.fn (.func 10) [] [])) [], none⟩,
        ⟨some 2, .val (.tmp 14), none⟩]) (
     .ret)) (
     .skip))) (
  .seq (
   .ops [⟨some 15, .iload true 5 (.tmp 1), none⟩,
     ⟨some 16, .bslice false 5 1 [(.lit (.int .u8 0)), (.lit (.string ⟨#[]⟩)), (.lit (.int .i64 0)), (.sl .nil 0 []), (.lit (.int .i64 0))] [(0, 5, (.tmp 15))], none⟩,
     ⟨some 17, .build [(.lit (.int .u8 0)), (.lit (.string ⟨#[]⟩)), (.lit (.string ⟨#[]⟩)), (.lit (.bool false)), (.sl .nil 0 []), (.sl .nil 0 []), (.sl .nil 0 []), (.lit (.int .i64 0))] [(0, 1, (.val (.lit (.int .u8 7)))), (4, 1, (.tmp 16))], none⟩,
     ⟨some 18, .bslice false 8 1 [(.lit (.int .u8 0)), (.lit (.string ⟨#[]⟩)), (.lit (.string ⟨#[]⟩)), (.lit (.bool false)), (.sl .nil 0 []), (.sl .nil 0 []), (.sl .nil 0 []), (.lit (.int .i64 0))] [(0, 8, (.tmp 17))], none⟩,
     ⟨some 19, .build [(.lit (.int .u8 0)), (.lit (.string ⟨#[]⟩)), (.lit (.int .i64 0)), (.sl .nil 0 []), (.sl .nil 0 []), (.lit (.int .i64 0))] [(0, 1, (.val (.lit (.int .u8 5)))), (1, 1, (.val (.lit (.string ⟨#[116]⟩)))), (4, 1, (.tmp 18))], none⟩,
     ⟨some 20, .bslice false 6 1 [(.lit (.int .u8 0)), (.lit (.string ⟨#[]⟩)), (.lit (.int .i64 0)), (.sl .nil 0 []), (.sl .nil 0 []), (.lit (.int .i64 0))] [(0, 6, (.tmp 19))], none⟩,
     ⟨some 3, .val (.tmp 20), none⟩]) (
  .seq (
   .ops [⟨some 21, .bslice false 6 0 [] [], none⟩,
     ⟨some 22, .val (.tmp 3), none⟩,
     ⟨some 24, .iload true 5 (.tmp 1), none⟩,
     ⟨some 25, .bslice false 5 1 [(.lit (.int .u8 0)), (.lit (.string ⟨#[]⟩)), (.lit (.int .i64 0)), (.sl .nil 0 []), (.lit (.int .i64 0))] [(0, 5, (.tmp 24))], none⟩,
     ⟨some 26, .build [(.lit (.int .u8 0)), (.lit (.string ⟨#[]⟩)), (.lit (.string ⟨#[]⟩)), (.lit (.bool false)), (.sl .nil 0 []), (.sl .nil 0 []), (.sl .nil 0 []), (.lit (.int .i64 0))] [(0, 1, (.val (.lit (.int .u8 9)))), (4, 1, (.tmp 25))], none⟩,
     ⟨some 27, .bslice false 8 1 [(.lit (.int .u8 0)), (.lit (.string ⟨#[]⟩)), (.lit (.string ⟨#[]⟩)), (.lit (.bool false)), (.sl .nil 0 []), (.sl .nil 0 []), (.sl .nil 0 []), (.lit (.int .i64 0))] [(0, 8, (.tmp 26))], none⟩,
     ⟨some 28, .build [(.lit (.int .u8 0)), (.lit (.string ⟨#[]⟩)), (.lit (.int .i64 0)), (.sl .nil 0 []), (.sl .nil 0 []), (.lit (.int .i64 0))] [(0, 1, (.val (.lit (.int .u8 5)))), (1, 1, (.val (.lit (.string ⟨#[117]⟩)))), (4, 1, (.tmp 27))], none⟩,
     ⟨some 29, .bslice false 6 1 [(.lit (.int .u8 0)), (.lit (.string ⟨#[]⟩)), (.lit (.int .i64 0)), (.sl .nil 0 []), (.sl .nil 0 []), (.lit (.int .i64 0))] [(0, 6, (.tmp 28))], none⟩,
     ⟨some 23, .append false 6 88 (.tmp 21) (.tmp 22), none⟩,
     ⟨some 30, .append false 6 88 (.tmp 23) (.tmp 29), none⟩,
     ⟨some 4, .val (.tmp 30), none⟩]) (
  .seq (
   .ops [⟨some 31, .val (.tmp 3), none⟩,
     ⟨some 32, .call (.val (.fn (.func 15) [] [])) [(.tmp 31)], none⟩,
     ⟨some 33, .val (.tmp 3), none⟩,
     ⟨some 34, .call (.val (.fn (.func 13) [] [])) [(.tmp 33)], none⟩,
     ⟨some 5, .val (.tmp 32), none⟩,
     ⟨some 6, .val (.tmp 34), none⟩]) (
  .seq (
   .ops (o_tal0 ++ (o_tal1 ++ (o_tal2 ++ (o_tal3 ++ o_tal4))))) (
  .ret))))))

theorem c_bobbinlaw02_TreeAlone : codeOf Tryd.prog { bz := [1], il := [7, 15, 24, 37, 73, 74] } 7 = some (a_bobbinlaw02_TreeAlone, [.tmp 2], 77) := by kernel_rfl

/-- bobbin/bobbinlaw02.TreeParts -/
def a_bobbinlaw02_TreePartsb1 : ACode :=
       .seq (
        .seq (
         .ops [⟨some 60, .val (.tmp 6), none⟩,
           ⟨some 61, .val (.tmp 0), none⟩,
           ⟨some 62, .len 1 (.tmp 61), none⟩,
           ⟨some 63, .bin .lss .num (.tmp 60) (.tmp 62), none⟩]) (
        .cond (.tmp 63) (
          .skip) (
          .exit 0))) (
       .seq (
        .block 1 (
          .seq (
           .ops [⟨some 66, .val (.tmp 0), none⟩,
             ⟨some 67, .val (.tmp 6), none⟩,
             ⟨some 68, .val (.tmp 6), none⟩,
             ⟨some 69, .bin .add .num (.tmp 68) (.val (.lit (.int .i64 1))), none⟩,
             ⟨some 70, .slice 6 (.tmp 66) (some (.tmp 67)) (some (.tmp 69)) none, none⟩,
             ⟨some 71, .call (.val (.fn (.func 11) [] [])) [(.tmp 70)], none⟩,
             ⟨some 72, .un .not (.tmp 71), none⟩,
             ⟨some 73, .val (.tmp 72), none⟩,
             ⟨some 74, .val (.tmp 0), some (73, false)⟩,
             ⟨some 75, .val (.tmp 6), some (73, false)⟩,
             ⟨some 76, .indexAddr 6 (.tmp 74) (.tmp 75), some (73, false)⟩,
             ⟨some 77, .fieldAddr 4 (.tmp 76), some (73, false)⟩,
             ⟨some 78, .load false 1 (.tmp 77), some (73, false)⟩,
             ⟨some 79, .call (.val (.fn (.func 26) [] [])) [(.tmp 78)], some (73, false)⟩,
             ⟨some 80, .un .not (.tmp 79), some (73, false)⟩,
             ⟨some 81, .pick (.tmp 73) (.val (.lit (.bool true))) (.tmp 80), none⟩]) (
          .cond (.tmp 81) (
            .seq (
             .ops [⟨some 4, .val (.val (.lit (.bool false))), none⟩]) (
            .ret)) (
            .skip)))) (
       .ops [⟨some 64, .val (.tmp 6), none⟩,
         ⟨some 65, .bin .add .num (.tmp 64) (.val (.lit (.int .i64 1))), none⟩,
         ⟨some 6, .val (.tmp 65), none⟩]))

def o_tpa0 : List AOper :=
     [⟨some 23, .val (.tmp 5), none⟩,
      ⟨some 24, .call (.val (.fn (.func 13) [] [])) [(.tmp 23)], none⟩,
      ⟨some 25, .val (.tmp 0), none⟩,
      ⟨some 26, .call (.val (.fn (.func 13) [] [])) [(.tmp 25)], none⟩,
      ⟨some 27, .val (.tmp 1), none⟩,
      ⟨some 28, .call (.val (.fn (.func 13) [] [])) [(.tmp 27)], none⟩,
      ⟨some 29, .mm2 true (.tmp 26) (.tmp 28), none⟩,
      ⟨some 30, .bin .neq .num (.tmp 24) (.tmp 29), none⟩,
      ⟨some 31, .val (.tmp 30), none⟩]

def o_tpa1 : List AOper :=
     [⟨some 32, .val (.tmp 5), some (31, false)⟩,
      ⟨some 33, .call (.val (.fn (.func 15) [] [])) [(.tmp 32)], some (31, false)⟩,
      ⟨some 34, .val (.tmp 0), some (31, false)⟩,
      ⟨some 35, .call (.val (.fn (.func 15) [] [])) [(.tmp 34)], some (31, false)⟩,
      ⟨some 36, .val (.tmp 1), some (31, false)⟩,
      ⟨some 37, .call (.val (.fn (.func 15) [] [])) [(.tmp 36)], some (31, false)⟩,
      ⟨some 38, .bin .add .num (.tmp 35) (.tmp 37), some (31, false)⟩,
      ⟨some 39, .bin .neq .num (.tmp 33) (.tmp 38), some (31, false)⟩,
      ⟨some 40, .pick (.tmp 31) (.val (.lit (.bool true))) (.tmp 39), none⟩,
      ⟨some 41, .val (.tmp 40), none⟩]

def o_tpa2 : List AOper :=
     [⟨some 42, .val (.tmp 5), some (41, false)⟩,
      ⟨some 43, .call (.val (.fn (.func 11) [] [])) [(.tmp 42)], some (41, false)⟩,
      ⟨some 44, .val (.tmp 0), some (41, false)⟩,
      ⟨some 45, .call (.val (.fn (.func 11) [] [])) [(.tmp 44)], some (41, false)⟩,
      ⟨some 46, .val (.tmp 45), some (41, false)⟩,
      ⟨some 47, .val (.tmp 1), some (46, true)⟩,
      ⟨some 48, .call (.val (.fn (.func 11) [] [])) [(.tmp 47)], some (46, true)⟩,
      ⟨some 49, .pick (.tmp 46) (.tmp 48) (.val (.lit (.bool false))), some (41, false)⟩,
      ⟨some 50, .val (.tmp 49), some (41, false)⟩,
      ⟨some 51, .val (.tmp 5), some (50, true)⟩,
      ⟨some 52, .len 1 (.tmp 51), some (50, true)⟩,
      ⟨some 53, .bin .leq .num (.tmp 52) (.val (.lit (.int .i64 256))), some (50, true)⟩,
      ⟨some 54, .pick (.tmp 50) (.tmp 53) (.val (.lit (.bool false))), some (41, false)⟩,
      ⟨some 55, .bin .neq .bool (.tmp 43) (.tmp 54), some (41, false)⟩,
      ⟨some 56, .pick (.tmp 41) (.val (.lit (.bool true))) (.tmp 55), none⟩]

def a_bobbinlaw02_TreeParts : ACode :=
  .seq (
   .ops [⟨some 4, .val (.val (.lit (.bool false))), none⟩]) (
  .seq (
   .seq (
    .ops [⟨some 7, .val (.tmp 0), none⟩,
      ⟨some 8, .call (.val (.fn (.func 8) [] [])) [(.tmp 7)], none⟩,
      ⟨some 9, .val (.tmp 8), none⟩,
      ⟨some 10, .val (.tmp 1), some (9, false)⟩,
      ⟨some 11, .call (.val (.fn (.func 8) [] [])) [(.tmp 10)], some (9, false)⟩,
      ⟨some 12, .pick (.tmp 9) (.val (.lit (.bool true))) (.tmp 11), none⟩,
      ⟨some 13, .val (.tmp 12), none⟩,
      ⟨some 14, .call (.val (.fn (.func 10) [] [])) [], some (13, false)⟩,
      ⟨some 15, .un .not (.tmp 14), some (13, false)⟩,
      ⟨some 16, .pick (.tmp 13) (.val (.lit (.bool true))) (.tmp 15), none⟩]) (
   .cond (.tmp 16) (
     .seq (
      .ops [⟨some 17, .call (.val (.fn (.func 10) [] [])) [], none⟩,
        ⟨some 4, .val (.tmp 17), none⟩]) (
     .ret)) (
     .skip))) (
  .seq (
   .ops [⟨some 18, .bslice false 6 0 [] [], none⟩,
     ⟨some 19, .val (.tmp 0), none⟩,
     ⟨some 20, .append false 6 88 (.tmp 18) (.tmp 19), none⟩,
     ⟨some 21, .val (.tmp 1), none⟩,
     ⟨some 22, .append false 6 88 (.tmp 20) (.tmp 21), none⟩,
     ⟨some 5, .val (.tmp 22), none⟩]) (
  .seq (
   .seq (
    .ops (o_tpa0 ++ (o_tpa1 ++ o_tpa2))) (
   .cond (.tmp 56) (
     .seq (
      .ops [⟨some 4, .val (.val (.lit (.bool false))), none⟩]) (
     .ret)) (
     .skip))) (
  .seq (
   .seq (
    .ops [⟨some 57, .val (.tmp 0), none⟩,
      ⟨some 58, .call (.val (.fn (.func 11) [] [])) [(.tmp 57)], none⟩,
      ⟨some 59, .un .not (.tmp 58), none⟩]) (
   .cond (.tmp 59) (
     .seq (
      .ops [⟨some 4, .val (.val (.lit (.bool true))), none⟩]) (
     .ret)) (
     .skip))) (
  .seq (
   .seq (
    .ops [⟨some 6, .val (.val (.lit (.int .i64 0))), none⟩]) (
   .block 0 (
     .loop a_bobbinlaw02_TreePartsb1))) (
  .seq (
   .ops [⟨some 4, .val (.val (.lit (.bool true))), none⟩]) (
  .ret)))))))

theorem c_bobbinlaw02_TreeParts : codeOf Tryd.prog {  } 5 = some (a_bobbinlaw02_TreeParts, [.tmp 4], 82) := by kernel_rfl

/-- bobbin/bobbinlaw02.within -/
def a_bobbinlaw02_withinb1 : ACode :=
               .seq (
                .ops [⟨some 51, .bin .lss .num (.tmp 50) (.tmp 49), none⟩]) (
               .seq (
                .cond (.tmp 51) (
                  .skip) (
                  .exit 4)) (
               .seq (
                .block 5 (
                  .seq (
                   .ops [⟨some 52, .indexAddr 1 (.tmp 48) (.tmp 50), none⟩,
                     ⟨some 53, .load false 1 (.tmp 52), none⟩,
                     ⟨some 6, .val (.tmp 53), none⟩]) (
                  .seq (
                   .ops [⟨some 54, .val (.tmp 6), none⟩,
                     ⟨some 55, .build [(.lit (.int .u8 0)), (.lit (.string ⟨#[]⟩)), (.lit (.int .i64 0)), (.sl .nil 0 []), (.sl .nil 0 []), (.lit (.int .i64 0))] [(0, 1, (.val (.lit (.int .u8 5)))), (1, 1, (.val (.lit (.string ⟨#[116]⟩)))), (4, 1, (.tmp 54))], none⟩,
                     ⟨some 56, .bslice false 6 1 [(.lit (.int .u8 0)), (.lit (.string ⟨#[]⟩)), (.lit (.int .i64 0)), (.sl .nil 0 []), (.sl .nil 0 []), (.lit (.int .i64 0))] [(0, 6, (.tmp 55))], none⟩,
                     ⟨some 57, .call (.val (.fn (.func 11) [] [])) [(.tmp 56)], none⟩,
                     ⟨some 58, .un .not (.tmp 57), none⟩]) (
                  .cond (.tmp 58) (
                    .seq (
                     .ops [⟨some 2, .val (.val (.lit (.bool false))), none⟩]) (
                    .ret)) (
                    .skip))))) (
               .ops [⟨some 59, .bin .add .num (.tmp 50) (.val (.lit (.int .i64 1))), none⟩,
                 ⟨some 50, .val (.tmp 59), none⟩])))

def a_bobbinlaw02_withinb2 : ACode :=
               .seq (
                .seq (
                 .ops [⟨some 13, .val (.tmp 4), none⟩,
                   ⟨some 14, .val (.tmp 0), none⟩,
                   ⟨some 15, .val (.tmp 3), none⟩,
                   ⟨some 16, .indexAddr 8 (.tmp 14) (.tmp 15), none⟩,
                   ⟨some 17, .fieldAddr 4 (.tmp 16), none⟩,
                   ⟨some 18, .load false 1 (.tmp 17), none⟩,
                   ⟨some 19, .len 1 (.tmp 18), none⟩,
                   ⟨some 20, .bin .lss .num (.tmp 13) (.tmp 19), none⟩]) (
                .cond (.tmp 20) (
                  .skip) (
                  .exit 2))) (
               .seq (
                .block 3 (
                  .seq (
                   .ops [⟨some 23, .val (.tmp 0), none⟩,
                     ⟨some 24, .val (.tmp 3), none⟩,
                     ⟨some 25, .indexAddr 8 (.tmp 23) (.tmp 24), none⟩,
                     ⟨some 26, .fieldAddr 4 (.tmp 25), none⟩,
                     ⟨some 27, .load false 1 (.tmp 26), none⟩,
                     ⟨some 28, .val (.tmp 4), none⟩,
                     ⟨some 29, .indexAddr 5 (.tmp 27) (.tmp 28), none⟩,
                     ⟨some 30, .load true 5 (.tmp 29), none⟩,
                     ⟨some 31, .call (.val (.fn (.func 19) [] [])) [(.tmp 30)], none⟩,
                     ⟨some 32, .un .not (.tmp 31), none⟩]) (
                  .cond (.tmp 32) (
                    .seq (
                     .ops [⟨some 2, .val (.val (.lit (.bool false))), none⟩]) (
                    .ret)) (
                    .skip)))) (
               .ops [⟨some 21, .val (.tmp 4), none⟩,
                 ⟨some 22, .bin .add .num (.tmp 21) (.val (.lit (.int .i64 1))), none⟩,
                 ⟨some 4, .val (.tmp 22), none⟩]))

def a_bobbinlaw02_withinb3 : ACode :=
       .seq (
        .seq (
         .ops [⟨some 7, .val (.tmp 3), none⟩,
           ⟨some 8, .val (.tmp 0), none⟩,
           ⟨some 9, .len 1 (.tmp 8), none⟩,
           ⟨some 10, .bin .lss .num (.tmp 7) (.tmp 9), none⟩]) (
        .cond (.tmp 10) (
          .skip) (
          .exit 0))) (
       .seq (
        .block 1 (
          .seq (
           .seq (
            .ops [⟨some 4, .val (.val (.lit (.int .i64 0))), none⟩]) (
           .block 2 (
             .loop a_bobbinlaw02_withinb2))) (
          .seq (
           .seq (
            .ops [⟨some 33, .val (.tmp 0), none⟩,
              ⟨some 34, .val (.tmp 3), none⟩,
              ⟨some 35, .indexAddr 8 (.tmp 33) (.tmp 34), none⟩,
              ⟨some 38, .val (.tmp 0), none⟩,
              ⟨some 39, .val (.tmp 3), none⟩,
              ⟨some 40, .indexAddr 8 (.tmp 38) (.tmp 39), none⟩,
              ⟨some 41, .fieldAddr 5 (.tmp 40), none⟩,
              ⟨some 43, .val (.tmp 0), none⟩,
              ⟨some 44, .val (.tmp 3), none⟩,
              ⟨some 45, .indexAddr 8 (.tmp 43) (.tmp 44), none⟩,
              ⟨some 46, .fieldAddr 6 (.tmp 45), none⟩,
              ⟨some 50, .val (.val (.lit (.int .i64 0))), none⟩,
              ⟨some 36, .load true 8 (.tmp 35), none⟩,
              ⟨some 37, .bslice false 8 1 [(.lit (.int .u8 0)), (.lit (.string ⟨#[]⟩)), (.lit (.string ⟨#[]⟩)), (.lit (.bool false)), (.sl .nil 0 []), (.sl .nil 0 []), (.sl .nil 0 []), (.lit (.int .i64 0))] [(0, 8, (.tmp 36))], none⟩,
              ⟨some 42, .load false 1 (.tmp 41), none⟩,
              ⟨some 47, .load false 1 (.tmp 46), none⟩,
              ⟨some 48, .bslice false 1 3 [(.sl .nil 0 []), (.sl .nil 0 []), (.sl .nil 0 [])] [(0, 1, (.tmp 37)), (1, 1, (.tmp 42)), (2, 1, (.tmp 47))], none⟩,
              ⟨some 49, .len 1 (.tmp 48), none⟩]) (
           .block 4 (
             .loop a_bobbinlaw02_withinb1))) (
          .seq (
           .ops [⟨some 60, .val (.tmp 0), none⟩,
             ⟨some 61, .val (.tmp 3), none⟩,
             ⟨some 62, .indexAddr 8 (.tmp 60) (.tmp 61), none⟩,
             ⟨some 63, .fieldAddr 5 (.tmp 62), none⟩,
             ⟨some 64, .load false 1 (.tmp 63), none⟩,
             ⟨some 65, .call (.val (.fn (.func 26) [] [])) [(.tmp 64)], none⟩,
             ⟨some 66, .un .not (.tmp 65), none⟩,
             ⟨some 67, .val (.tmp 66), none⟩,
             ⟨some 68, .val (.tmp 0), some (67, false)⟩,
             ⟨some 69, .val (.tmp 3), some (67, false)⟩,
             ⟨some 70, .indexAddr 8 (.tmp 68) (.tmp 69), some (67, false)⟩,
             ⟨some 71, .fieldAddr 6 (.tmp 70), some (67, false)⟩,
             ⟨some 72, .load false 1 (.tmp 71), some (67, false)⟩,
             ⟨some 73, .call (.val (.fn (.func 26) [] [])) [(.tmp 72)], some (67, false)⟩,
             ⟨some 74, .un .not (.tmp 73), some (67, false)⟩,
             ⟨some 75, .pick (.tmp 67) (.val (.lit (.bool true))) (.tmp 74), none⟩]) (
          .cond (.tmp 75) (
            .seq (
             .ops [⟨some 2, .val (.val (.lit (.bool false))), none⟩]) (
            .ret)) (
            .skip)))))) (
       .ops [⟨some 11, .val (.tmp 3), none⟩,
         ⟨some 12, .bin .add .num (.tmp 11) (.val (.lit (.int .i64 1))), none⟩,
         ⟨some 3, .val (.tmp 12), none⟩]))

def a_bobbinlaw02_within : ACode :=
  .seq (
   .ops [⟨some 2, .val (.val (.lit (.bool false))), none⟩]) (
  .seq (
   .seq (
    .ops [⟨some 3, .val (.val (.lit (.int .i64 0))), none⟩]) (
   .block 0 (
     .loop a_bobbinlaw02_withinb3))) (
  .seq (
   .ops [⟨some 2, .val (.val (.lit (.bool true))), none⟩]) (
  .ret)))

theorem c_bobbinlaw02_within : codeOf Tryd.prog {  } 26 = some (a_bobbinlaw02_within, [.tmp 2], 76) := by kernel_rfl

end Go.Proofs.YtebopfpgicamiaaDoor
