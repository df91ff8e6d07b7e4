/- The code of functions, compiled (printed by wip/tools/kp.py). -/
import Derived.Test.YtebopfpgicamiaaDoorProg
import Derived.Test.YtebopfpgicamiaaDoorM3
namespace Go.Proofs.YtebopfpgicamiaaDoor
set_option linter.unusedSimpArgs false
set_option linter.unusedVariables false
open Go Go.Fw
/-- bobbin/bobbinlaw02.TreeNames -/
def a_bobbinlaw02_TreeNamesb1 : ACode :=
       .seq (
        .ops [⟨some 126, .bin .lss .num (.tmp 125) (.tmp 124), none⟩]) (
       .seq (
        .cond (.tmp 126) (
          .skip) (
          .exit 10)) (
       .seq (
        .block 11 (
          .seq (
           .ops [⟨some 127, .val (.tmp 125), none⟩,
             ⟨some 16, .val (.tmp 127), none⟩]) (
          .ops [⟨some 128, .val (.tmp 15), none⟩,
            ⟨some 129, .val (.tmp 16), none⟩,
            ⟨some 130, .build [(.lit (.int .u8 0)), (.lit (.string ⟨#[]⟩)), (.lit (.int .i64 0)), (.sl .nil 0 []), (.sl .nil 0 []), (.lit (.int .i64 0))] [(0, 1, (.val (.lit (.int .u8 3)))), (1, 1, (.val (.lit (.string ⟨#[108]⟩))))], none⟩,
            ⟨some 131, .indexAddr 6 (.tmp 128) (.tmp 129), none⟩,
            ⟨none, .store 6 (.tmp 131) (.tmp 130), none⟩]))) (
       .ops [⟨some 132, .bin .add .num (.tmp 125) (.val (.lit (.int .i64 1))), none⟩,
         ⟨some 125, .val (.tmp 132), none⟩])))

def a_bobbinlaw02_TreeNamesb2 : ACode :=
       .seq (
        .seq (
         .ops [⟨some 103, .val (.tmp 12), none⟩,
           ⟨some 104, .bin .lss .num (.tmp 103) (.val (.lit (.int .i64 58))), none⟩]) (
        .cond (.tmp 104) (
          .skip) (
          .exit 8))) (
       .seq (
        .block 9 (
          .ops [⟨some 107, .load true 5 (.tmp 11), none⟩,
            ⟨some 108, .bslice false 5 1 [(.lit (.int .u8 0)), (.lit (.string ⟨#[]⟩)), (.lit (.int .i64 0)), (.sl .nil 0 []), (.lit (.int .i64 0))] [(0, 5, (.tmp 107))], none⟩,
            ⟨some 109, .build [(.lit (.int .u8 0)), (.lit (.string ⟨#[]⟩)), (.lit (.int .i64 0)), (.sl .nil 0 []), (.lit (.int .i64 0))] [(0, 1, (.val (.lit (.int .u8 5)))), (3, 1, (.tmp 108))], none⟩,
            ⟨none, .store 5 (.tmp 11) (.tmp 109), none⟩])) (
       .ops [⟨some 105, .val (.tmp 12), none⟩,
         ⟨some 106, .bin .add .num (.tmp 105) (.val (.lit (.int .i64 1))), none⟩,
         ⟨some 12, .val (.tmp 106), none⟩]))

def a_bobbinlaw02_TreeNamesb3 : ACode :=
       .seq (
        .ops [⟨some 95, .bin .lss .num (.tmp 94) (.tmp 93), none⟩]) (
       .seq (
        .cond (.tmp 95) (
          .skip) (
          .exit 6)) (
       .seq (
        .block 7 (
          .seq (
           .ops [⟨some 96, .indexAddr 8 (.tmp 92) (.tmp 94), none⟩,
             ⟨some 97, .load true 8 (.tmp 96), none⟩,
             ⟨some 10, .alloc [(.lit (.int .u8 0)), (.lit (.string ⟨#[]⟩)), (.lit (.string ⟨#[]⟩)), (.lit (.bool false)), (.sl .nil 0 []), (.sl .nil 0 []), (.sl .nil 0 []), (.lit (.int .i64 0))], none⟩,
             ⟨none, .store 8 (.tmp 10) (.tmp 97), none⟩]) (
          .seq (
           .ops [⟨some 98, .val (.tmp 8), none⟩,
             ⟨some 99, .load true 8 (.tmp 10), none⟩,
             ⟨some 100, .call (.tmp 98) [(.tmp 99)], none⟩]) (
          .cond (.tmp 100) (
            .seq (
             .ops [⟨some 0, .val (.val (.lit (.bool false))), none⟩]) (
            .ret)) (
            .skip))))) (
       .ops [⟨some 101, .bin .add .num (.tmp 94) (.val (.lit (.int .i64 1))), none⟩,
         ⟨some 94, .val (.tmp 101), none⟩])))

def a_bobbinlaw02_TreeNamesb4 : ACode :=
       .seq (
        .ops [⟨some 58, .bin .lss .num (.tmp 57) (.tmp 56), none⟩]) (
       .seq (
        .cond (.tmp 58) (
          .skip) (
          .exit 4)) (
       .seq (
        .block 5 (
          .seq (
           .ops [⟨some 59, .indexAddr 5 (.tmp 55) (.tmp 57), none⟩,
             ⟨some 60, .load true 5 (.tmp 59), none⟩,
             ⟨some 7, .alloc [(.lit (.int .u8 0)), (.lit (.string ⟨#[]⟩)), (.lit (.int .i64 0)), (.sl .nil 0 []), (.lit (.int .i64 0))], none⟩,
             ⟨none, .store 5 (.tmp 7) (.tmp 60), none⟩]) (
          .seq (
           .ops [⟨some 61, .load true 5 (.tmp 7), none⟩,
             ⟨some 62, .call (.val (.fn (.func 19) [] [])) [(.tmp 61)], none⟩]) (
          .cond (.tmp 62) (
            .seq (
             .ops [⟨some 0, .val (.val (.lit (.bool false))), none⟩]) (
            .ret)) (
            .skip))))) (
       .ops [⟨some 63, .bin .add .num (.tmp 57) (.val (.lit (.int .i64 1))), none⟩,
         ⟨some 57, .val (.tmp 63), none⟩])))

def a_bobbinlaw02_TreeNamesb5 : ACode :=
       .seq (
        .ops [⟨some 29, .bin .lss .num (.tmp 28) (.tmp 27), none⟩]) (
       .seq (
        .cond (.tmp 29) (
          .skip) (
          .exit 2)) (
       .seq (
        .block 3 (
          .seq (
           .ops [⟨some 30, .indexAddr 1 (.tmp 26) (.tmp 28), none⟩,
             ⟨some 31, .load false 1 (.tmp 30), none⟩,
             ⟨some 5, .val (.tmp 31), none⟩]) (
          .seq (
           .ops [⟨some 32, .val (.tmp 5), none⟩,
             ⟨some 33, .call (.val (.fn (.func 23) [] [])) [(.tmp 32)], none⟩]) (
          .cond (.tmp 33) (
            .seq (
             .ops [⟨some 0, .val (.val (.lit (.bool false))), none⟩]) (
            .ret)) (
            .skip))))) (
       .ops [⟨some 34, .bin .add .num (.tmp 28) (.val (.lit (.int .i64 1))), none⟩,
         ⟨some 28, .val (.tmp 34), none⟩])))

def a_bobbinlaw02_TreeNamesb6 : ACode :=
       .seq (
        .seq (
         .ops [⟨some 18, .val (.tmp 3), none⟩,
           ⟨some 19, .bin .lss .num (.tmp 18) (.val (.lit (.int .i64 31))), none⟩]) (
        .cond (.tmp 19) (
          .skip) (
          .exit 0))) (
       .seq (
        .block 1 (
          .ops [⟨some 22, .val (.tmp 2), none⟩,
            ⟨some 23, .bin .add .num (.tmp 22) (.val (.lit (.string ⟨#[48]⟩))), none⟩,
            ⟨some 2, .val (.tmp 23), none⟩])) (
       .ops [⟨some 20, .val (.tmp 3), none⟩,
         ⟨some 21, .bin .add .num (.tmp 20) (.val (.lit (.int .i64 1))), none⟩,
         ⟨some 3, .val (.tmp 21), none⟩]))

def a_tn_ns : ACode :=
    .ops [⟨some 24, .val (.tmp 2), none⟩,
      ⟨some 25, .bin .add .num (.tmp 24) (.val (.lit (.string ⟨#[48]⟩))), none⟩,
      ⟨some 26, .bslice false 1 19 [(.lit (.string ⟨#[]⟩)), (.lit (.string ⟨#[]⟩)), (.lit (.string ⟨#[]⟩)), (.lit (.string ⟨#[]⟩)), (.lit (.string ⟨#[]⟩)), (.lit (.string ⟨#[]⟩)), (.lit (.string ⟨#[]⟩)), (.lit (.string ⟨#[]⟩)), (.lit (.string ⟨#[]⟩)), (.lit (.string ⟨#[]⟩)), (.lit (.string ⟨#[]⟩)), (.lit (.string ⟨#[]⟩)), (.lit (.string ⟨#[]⟩)), (.lit (.string ⟨#[]⟩)), (.lit (.string ⟨#[]⟩)), (.lit (.string ⟨#[]⟩)), (.lit (.string ⟨#[]⟩)), (.lit (.string ⟨#[]⟩)), (.lit (.string ⟨#[]⟩))] [(0, 1, (.val (.lit (.string ⟨#[103, 108, 111, 98, 97, 108]⟩)))), (1, 1, (.val (.lit (.string ⟨#[97, 114, 114, 97, 121]⟩)))), (2, 1, (.val (.lit (.string ⟨#[108, 111, 99, 107]⟩)))), (3, 1, (.val (.lit (.string ⟨#[102, 117, 110, 99]⟩)))), (4, 1, (.val (.lit (.string ⟨#[116, 104, 114, 101, 97, 100]⟩)))), (5, 1, (.val (.lit (.string ⟨#[118, 97, 114]⟩)))), (6, 1, (.val (.lit (.string ⟨#[105, 102]⟩)))), (7, 1, (.val (.lit (.string ⟨#[101, 108, 115, 101]⟩)))), (8, 1, (.val (.lit (.string ⟨#[119, 104, 105, 108, 101]⟩)))), (9, 1, (.val (.lit (.string ⟨#[119, 105, 116, 104]⟩)))), (10, 1, (.val (.lit (.string ⟨#[112, 114, 105, 110, 116]⟩)))), (11, 1, (.val (.lit (.string ⟨#[99, 97, 108, 108]⟩)))), (12, 1, (.val (.lit (.string ⟨#[114, 101, 116, 117, 114, 110]⟩)))), (13, 1, (.val (.lit (.string ⟨#[116, 114, 117, 101]⟩)))), (14, 1, (.val (.lit (.string ⟨#[102, 97, 108, 115, 101]⟩)))), (15, 1, (.val (.lit (.string ⟨#[]⟩)))), (16, 1, (.val (.lit (.string ⟨#[48, 97]⟩)))), (17, 1, (.val (.lit (.string ⟨#[97, 45, 98]⟩)))), (18, 1, (.tmp 25))], none⟩,
      ⟨some 27, .len 1 (.tmp 26), none⟩,
      ⟨some 28, .val (.val (.lit (.int .i64 0))), none⟩]

def a_tn_es : ACode :=
    .ops [⟨some 35, .build [(.lit (.int .u8 0)), (.lit (.string ⟨#[]⟩)), (.lit (.int .i64 0)), (.sl .nil 0 []), (.lit (.int .i64 0))] [], none⟩,
      ⟨some 36, .build [(.lit (.int .u8 0)), (.lit (.string ⟨#[]⟩)), (.lit (.int .i64 0)), (.sl .nil 0 []), (.lit (.int .i64 0))] [(0, 1, (.val (.lit (.int .u8 1)))), (2, 1, (.val (.lit (.int .i64 (-1)))))], none⟩,
      ⟨some 37, .build [(.lit (.int .u8 0)), (.lit (.string ⟨#[]⟩)), (.lit (.int .i64 0)), (.sl .nil 0 []), (.lit (.int .i64 0))] [(0, 1, (.val (.lit (.int .u8 2)))), (2, 1, (.val (.lit (.int .i64 2))))], none⟩,
      ⟨some 38, .build [(.lit (.int .u8 0)), (.lit (.string ⟨#[]⟩)), (.lit (.int .i64 0)), (.sl .nil 0 []), (.lit (.int .i64 0))] [(0, 1, (.val (.lit (.int .u8 3))))], none⟩,
      ⟨some 39, .load true 5 (.tmp 1), none⟩,
      ⟨some 40, .load true 5 (.tmp 1), none⟩,
      ⟨some 41, .bslice false 5 2 [(.lit (.int .u8 0)), (.lit (.string ⟨#[]⟩)), (.lit (.int .i64 0)), (.sl .nil 0 []), (.lit (.int .i64 0)), (.lit (.int .u8 0)), (.lit (.string ⟨#[]⟩)), (.lit (.int .i64 0)), (.sl .nil 0 []), (.lit (.int .i64 0))] [(0, 5, (.tmp 39)), (5, 5, (.tmp 40))], none⟩,
      ⟨some 42, .build [(.lit (.int .u8 0)), (.lit (.string ⟨#[]⟩)), (.lit (.int .i64 0)), (.sl .nil 0 []), (.lit (.int .i64 0))] [(0, 1, (.val (.lit (.int .u8 5)))), (3, 1, (.tmp 41))], none⟩,
      ⟨some 43, .load true 5 (.tmp 1), none⟩,
      ⟨some 44, .bslice false 5 1 [(.lit (.int .u8 0)), (.lit (.string ⟨#[]⟩)), (.lit (.int .i64 0)), (.sl .nil 0 []), (.lit (.int .i64 0))] [(0, 5, (.tmp 43))], none⟩,
      ⟨some 45, .build [(.lit (.int .u8 0)), (.lit (.string ⟨#[]⟩)), (.lit (.int .i64 0)), (.sl .nil 0 []), (.lit (.int .i64 0))] [(0, 1, (.val (.lit (.int .u8 7)))), (3, 1, (.tmp 44))], none⟩,
      ⟨some 46, .build [(.lit (.int .u8 0)), (.lit (.string ⟨#[]⟩)), (.lit (.int .i64 0)), (.sl .nil 0 []), (.lit (.int .i64 0))] [(0, 1, (.val (.lit (.int .u8 1)))), (1, 1, (.val (.lit (.string ⟨#[97]⟩))))], none⟩,
      ⟨some 47, .build [(.lit (.int .u8 0)), (.lit (.string ⟨#[]⟩)), (.lit (.int .i64 0)), (.sl .nil 0 []), (.lit (.int .i64 0))] [(0, 1, (.val (.lit (.int .u8 4)))), (1, 1, (.val (.lit (.string ⟨#[97]⟩))))], none⟩,
      ⟨some 48, .load true 5 (.tmp 1), none⟩,
      ⟨some 49, .load true 5 (.tmp 1), none⟩,
      ⟨some 50, .bslice false 5 2 [(.lit (.int .u8 0)), (.lit (.string ⟨#[]⟩)), (.lit (.int .i64 0)), (.sl .nil 0 []), (.lit (.int .i64 0)), (.lit (.int .u8 0)), (.lit (.string ⟨#[]⟩)), (.lit (.int .i64 0)), (.sl .nil 0 []), (.lit (.int .i64 0))] [(0, 5, (.tmp 48)), (5, 5, (.tmp 49))], none⟩,
      ⟨some 51, .build [(.lit (.int .u8 0)), (.lit (.string ⟨#[]⟩)), (.lit (.int .i64 0)), (.sl .nil 0 []), (.lit (.int .i64 0))] [(0, 1, (.val (.lit (.int .u8 18)))), (3, 1, (.tmp 50))], none⟩,
      ⟨some 52, .load true 5 (.tmp 1), none⟩,
      ⟨some 53, .bslice false 5 1 [(.lit (.int .u8 0)), (.lit (.string ⟨#[]⟩)), (.lit (.int .i64 0)), (.sl .nil 0 []), (.lit (.int .i64 0))] [(0, 5, (.tmp 52))], none⟩,
      ⟨some 54, .build [(.lit (.int .u8 0)), (.lit (.string ⟨#[]⟩)), (.lit (.int .i64 0)), (.sl .nil 0 []), (.lit (.int .i64 0))] [(0, 1, (.val (.lit (.int .u8 6)))), (2, 1, (.val (.lit (.int .i64 1)))), (3, 1, (.tmp 53))], none⟩,
      ⟨some 55, .bslice false 5 10 [(.lit (.int .u8 0)), (.lit (.string ⟨#[]⟩)), (.lit (.int .i64 0)), (.sl .nil 0 []), (.lit (.int .i64 0)), (.lit (.int .u8 0)), (.lit (.string ⟨#[]⟩)), (.lit (.int .i64 0)), (.sl .nil 0 []), (.lit (.int .i64 0)), (.lit (.int .u8 0)), (.lit (.string ⟨#[]⟩)), (.lit (.int .i64 0)), (.sl .nil 0 []), (.lit (.int .i64 0)), (.lit (.int .u8 0)), (.lit (.string ⟨#[]⟩)), (.lit (.int .i64 0)), (.sl .nil 0 []), (.lit (.int .i64 0)), (.lit (.int .u8 0)), (.lit (.string ⟨#[]⟩)), (.lit (.int .i64 0)), (.sl .nil 0 []), (.lit (.int .i64 0)), (.lit (.int .u8 0)), (.lit (.string ⟨#[]⟩)), (.lit (.int .i64 0)), (.sl .nil 0 []), (.lit (.int .i64 0)), (.lit (.int .u8 0)), (.lit (.string ⟨#[]⟩)), (.lit (.int .i64 0)), (.sl .nil 0 []), (.lit (.int .i64 0)), (.lit (.int .u8 0)), (.lit (.string ⟨#[]⟩)), (.lit (.int .i64 0)), (.sl .nil 0 []), (.lit (.int .i64 0)), (.lit (.int .u8 0)), (.lit (.string ⟨#[]⟩)), (.lit (.int .i64 0)), (.sl .nil 0 []), (.lit (.int .i64 0)), (.lit (.int .u8 0)), (.lit (.string ⟨#[]⟩)), (.lit (.int .i64 0)), (.sl .nil 0 []), (.lit (.int .i64 0))] [(0, 5, (.tmp 35)), (5, 5, (.tmp 36)), (10, 5, (.tmp 37)), (15, 5, (.tmp 38)), (20, 5, (.tmp 42)), (25, 5, (.tmp 45)), (30, 5, (.tmp 46)), (35, 5, (.tmp 47)), (40, 5, (.tmp 51)), (45, 5, (.tmp 54))], none⟩,
      ⟨some 56, .len 1 (.tmp 55), none⟩,
      ⟨some 57, .val (.val (.lit (.int .i64 0))), none⟩]

def a_tn_s0 : ACode :=
     .ops [⟨some 64, .build [(.lit (.int .u8 0)), (.lit (.string ⟨#[]⟩)), (.lit (.string ⟨#[]⟩)), (.lit (.bool false)), (.sl .nil 0 []), (.sl .nil 0 []), (.sl .nil 0 []), (.lit (.int .i64 0))] [], none⟩,
       ⟨some 68, .build [(.lit (.int .u8 0)), (.lit (.string ⟨#[]⟩)), (.lit (.string ⟨#[]⟩)), (.lit (.bool false)), (.sl .nil 0 []), (.sl .nil 0 []), (.sl .nil 0 []), (.lit (.int .i64 0))] [(0, 1, (.val (.lit (.int .u8 1)))), (1, 1, (.val (.lit (.string ⟨#[97]⟩))))], none⟩,
       ⟨some 72, .build [(.lit (.int .u8 0)), (.lit (.string ⟨#[]⟩)), (.lit (.string ⟨#[]⟩)), (.lit (.bool false)), (.sl .nil 0 []), (.sl .nil 0 []), (.sl .nil 0 []), (.lit (.int .i64 0))] [(0, 1, (.val (.lit (.int .u8 4))))], none⟩,
       ⟨some 80, .build [(.lit (.int .u8 0)), (.lit (.string ⟨#[]⟩)), (.lit (.string ⟨#[]⟩)), (.lit (.bool false)), (.sl .nil 0 []), (.sl .nil 0 []), (.sl .nil 0 []), (.lit (.int .i64 0))] [(0, 1, (.val (.lit (.int .u8 6))))], none⟩,
       ⟨some 84, .build [(.lit (.int .u8 0)), (.lit (.string ⟨#[]⟩)), (.lit (.string ⟨#[]⟩)), (.lit (.bool false)), (.sl .nil 0 []), (.sl .nil 0 []), (.sl .nil 0 []), (.lit (.int .i64 0))] [(0, 1, (.val (.lit (.int .u8 8)))), (1, 1, (.val (.lit (.string ⟨#[102]⟩)))), (3, 1, (.val (.lit (.bool true))))], none⟩,
       ⟨some 85, .build [(.lit (.int .u8 0)), (.lit (.string ⟨#[]⟩)), (.lit (.string ⟨#[]⟩)), (.lit (.bool false)), (.sl .nil 0 []), (.sl .nil 0 []), (.sl .nil 0 []), (.lit (.int .i64 0))] [(0, 1, (.val (.lit (.int .u8 8)))), (1, 1, (.val (.lit (.string ⟨#[102]⟩)))), (2, 1, (.val (.lit (.string ⟨#[105, 102]⟩))))], none⟩,
       ⟨some 88, .build [(.lit (.int .u8 0)), (.lit (.string ⟨#[]⟩)), (.lit (.string ⟨#[]⟩)), (.lit (.bool false)), (.sl .nil 0 []), (.sl .nil 0 []), (.sl .nil 0 []), (.lit (.int .i64 0))] [(0, 1, (.val (.lit (.int .u8 9))))], none⟩,
       ⟨some 94, .val (.val (.lit (.int .i64 0))), none⟩]

def a_tn_s1 : ACode :=
    .ops [⟨some 92, .bslice false 8 13 [(.lit (.int .u8 0)), (.lit (.string ⟨#[]⟩)), (.lit (.string ⟨#[]⟩)), (.lit (.bool false)), (.sl .nil 0 []), (.sl .nil 0 []), (.sl .nil 0 []), (.lit (.int .i64 0)), (.lit (.int .u8 0)), (.lit (.string ⟨#[]⟩)), (.lit (.string ⟨#[]⟩)), (.lit (.bool false)), (.sl .nil 0 []), (.sl .nil 0 []), (.sl .nil 0 []), (.lit (.int .i64 0)), (.lit (.int .u8 0)), (.lit (.string ⟨#[]⟩)), (.lit (.string ⟨#[]⟩)), (.lit (.bool false)), (.sl .nil 0 []), (.sl .nil 0 []), (.sl .nil 0 []), (.lit (.int .i64 0)), (.lit (.int .u8 0)), (.lit (.string ⟨#[]⟩)), (.lit (.string ⟨#[]⟩)), (.lit (.bool false)), (.sl .nil 0 []), (.sl .nil 0 []), (.sl .nil 0 []), (.lit (.int .i64 0)), (.lit (.int .u8 0)), (.lit (.string ⟨#[]⟩)), (.lit (.string ⟨#[]⟩)), (.lit (.bool false)), (.sl .nil 0 []), (.sl .nil 0 []), (.sl .nil 0 []), (.lit (.int .i64 0)), (.lit (.int .u8 0)), (.lit (.string ⟨#[]⟩)), (.lit (.string ⟨#[]⟩)), (.lit (.bool false)), (.sl .nil 0 []), (.sl .nil 0 []), (.sl .nil 0 []), (.lit (.int .i64 0)), (.lit (.int .u8 0)), (.lit (.string ⟨#[]⟩)), (.lit (.string ⟨#[]⟩)), (.lit (.bool false)), (.sl .nil 0 []), (.sl .nil 0 []), (.sl .nil 0 []), (.lit (.int .i64 0)), (.lit (.int .u8 0)), (.lit (.string ⟨#[]⟩)), (.lit (.string ⟨#[]⟩)), (.lit (.bool false)), (.sl .nil 0 []), (.sl .nil 0 []), (.sl .nil 0 []), (.lit (.int .i64 0)), (.lit (.int .u8 0)), (.lit (.string ⟨#[]⟩)), (.lit (.string ⟨#[]⟩)), (.lit (.bool false)), (.sl .nil 0 []), (.sl .nil 0 []), (.sl .nil 0 []), (.lit (.int .i64 0)), (.lit (.int .u8 0)), (.lit (.string ⟨#[]⟩)), (.lit (.string ⟨#[]⟩)), (.lit (.bool false)), (.sl .nil 0 []), (.sl .nil 0 []), (.sl .nil 0 []), (.lit (.int .i64 0)), (.lit (.int .u8 0)), (.lit (.string ⟨#[]⟩)), (.lit (.string ⟨#[]⟩)), (.lit (.bool false)), (.sl .nil 0 []), (.sl .nil 0 []), (.sl .nil 0 []), (.lit (.int .i64 0)), (.lit (.int .u8 0)), (.lit (.string ⟨#[]⟩)), (.lit (.string ⟨#[]⟩)), (.lit (.bool false)), (.sl .nil 0 []), (.sl .nil 0 []), (.sl .nil 0 []), (.lit (.int .i64 0)), (.lit (.int .u8 0)), (.lit (.string ⟨#[]⟩)), (.lit (.string ⟨#[]⟩)), (.lit (.bool false)), (.sl .nil 0 []), (.sl .nil 0 []), (.sl .nil 0 []), (.lit (.int .i64 0))] [(0, 8, (.tmp 64)), (8, 8, (.tmp 67)), (16, 8, (.tmp 68)), (24, 8, (.tmp 71)), (32, 8, (.tmp 72)), (40, 8, (.tmp 79)), (48, 8, (.tmp 80)), (56, 8, (.tmp 83)), (64, 8, (.tmp 84)), (72, 8, (.tmp 85)), (80, 8, (.tmp 87)), (88, 8, (.tmp 88)), (96, 8, (.tmp 91))], none⟩,
      ⟨some 93, .len 1 (.tmp 92), none⟩]

def a_tn_at : ACode :=
   .ops [⟨some 110, .val (.tmp 8), none⟩,
     ⟨some 111, .load true 5 (.tmp 11), none⟩,
     ⟨some 112, .bslice false 5 1 [(.lit (.int .u8 0)), (.lit (.string ⟨#[]⟩)), (.lit (.int .i64 0)), (.sl .nil 0 []), (.lit (.int .i64 0))] [(0, 5, (.tmp 111))], none⟩,
     ⟨some 113, .build [(.lit (.int .u8 0)), (.lit (.string ⟨#[]⟩)), (.lit (.string ⟨#[]⟩)), (.lit (.bool false)), (.sl .nil 0 []), (.sl .nil 0 []), (.sl .nil 0 []), (.lit (.int .i64 0))] [(0, 1, (.val (.lit (.int .u8 7)))), (4, 1, (.tmp 112))], none⟩,
     ⟨some 114, .call (.tmp 110) [(.tmp 113)], none⟩,
     ⟨some 13, .val (.tmp 114), none⟩]

def a_tn_ov : ACode :=
   .ops [⟨some 115, .val (.tmp 8), none⟩,
     ⟨some 116, .load true 5 (.tmp 11), none⟩,
     ⟨some 117, .bslice false 5 1 [(.lit (.int .u8 0)), (.lit (.string ⟨#[]⟩)), (.lit (.int .i64 0)), (.sl .nil 0 []), (.lit (.int .i64 0))] [(0, 5, (.tmp 116))], none⟩,
     ⟨some 118, .build [(.lit (.int .u8 0)), (.lit (.string ⟨#[]⟩)), (.lit (.int .i64 0)), (.sl .nil 0 []), (.lit (.int .i64 0))] [(0, 1, (.val (.lit (.int .u8 5)))), (3, 1, (.tmp 117))], none⟩,
     ⟨some 119, .bslice false 5 1 [(.lit (.int .u8 0)), (.lit (.string ⟨#[]⟩)), (.lit (.int .i64 0)), (.sl .nil 0 []), (.lit (.int .i64 0))] [(0, 5, (.tmp 118))], none⟩,
     ⟨some 120, .build [(.lit (.int .u8 0)), (.lit (.string ⟨#[]⟩)), (.lit (.string ⟨#[]⟩)), (.lit (.bool false)), (.sl .nil 0 []), (.sl .nil 0 []), (.sl .nil 0 []), (.lit (.int .i64 0))] [(0, 1, (.val (.lit (.int .u8 7)))), (4, 1, (.tmp 119))], none⟩,
     ⟨some 121, .call (.tmp 115) [(.tmp 120)], none⟩,
     ⟨some 14, .val (.tmp 121), none⟩]

def o_tne0 : List AOper :=
     [⟨some 133, .val (.tmp 2), none⟩,
     ⟨some 134, .call (.val (.fn (.func 23) [] [])) [(.tmp 133)], none⟩,
     ⟨some 135, .val (.tmp 134), none⟩,
     ⟨some 136, .val (.tmp 13), some (135, true)⟩,
     ⟨some 137, .pick (.tmp 135) (.tmp 136) (.val (.lit (.bool false))), none⟩,
     ⟨some 138, .val (.tmp 137), none⟩,
     ⟨some 139, .val (.tmp 14), some (138, true)⟩,
     ⟨some 140, .un .not (.tmp 139), some (138, true)⟩,
     ⟨some 141, .pick (.tmp 138) (.tmp 140) (.val (.lit (.bool false))), none⟩,
     ⟨some 142, .val (.tmp 141), none⟩]

def o_tne1 : List AOper :=
     [⟨some 143, .val (.tmp 15), some (142, true)⟩,
     ⟨some 144, .call (.val (.fn (.func 11) [] [])) [(.tmp 143)], some (142, true)⟩,
     ⟨some 145, .pick (.tmp 142) (.tmp 144) (.val (.lit (.bool false))), none⟩,
     ⟨some 146, .val (.tmp 145), none⟩]

def o_tne2 : List AOper :=
     [⟨some 147, .val (.tmp 15), some (146, true)⟩,
     ⟨some 148, .val (.tmp 15), some (146, true)⟩,
     ⟨some 149, .indexAddr 6 (.tmp 148) (.val (.lit (.int .i64 0))), some (146, true)⟩,
     ⟨some 150, .load true 6 (.tmp 149), some (146, true)⟩,
     ⟨some 151, .bslice false 6 1 [(.lit (.int .u8 0)), (.lit (.string ⟨#[]⟩)), (.lit (.int .i64 0)), (.sl .nil 0 []), (.sl .nil 0 []), (.lit (.int .i64 0))] [(0, 6, (.tmp 150))], some (146, true)⟩,
     ⟨some 152, .append false 6 88 (.tmp 147) (.tmp 151), some (146, true)⟩,
     ⟨some 153, .call (.val (.fn (.func 11) [] [])) [(.tmp 152)], some (146, true)⟩,
     ⟨some 154, .un .not (.tmp 153), some (146, true)⟩,
     ⟨some 155, .pick (.tmp 146) (.tmp 154) (.val (.lit (.bool false))), none⟩,
     ⟨some 156, .val (.tmp 155), none⟩]

def o_tne3 : List AOper :=
     [⟨some 157, .call (.val (.fn (.func 11) [] [])) [(.val (.sl .nil 0 []))], some (156, true)⟩,
     ⟨some 158, .pick (.tmp 156) (.tmp 157) (.val (.lit (.bool false))), none⟩,
     ⟨some 159, .val (.tmp 158), none⟩]

def o_tne4 : List AOper :=
     [⟨some 160, .val (.tmp 8), some (159, true)⟩,
     ⟨some 161, .load true 5 (.tmp 1), some (159, true)⟩,
     ⟨some 162, .bslice false 5 1 [(.lit (.int .u8 0)), (.lit (.string ⟨#[]⟩)), (.lit (.int .i64 0)), (.sl .nil 0 []), (.lit (.int .i64 0))] [(0, 5, (.tmp 161))], some (159, true)⟩,
     ⟨some 163, .build [(.lit (.int .u8 0)), (.lit (.string ⟨#[]⟩)), (.lit (.string ⟨#[]⟩)), (.lit (.bool false)), (.sl .nil 0 []), (.sl .nil 0 []), (.sl .nil 0 []), (.lit (.int .i64 0))] [(0, 1, (.val (.lit (.int .u8 8)))), (1, 1, (.val (.lit (.string ⟨#[102]⟩)))), (2, 1, (.val (.lit (.string ⟨#[118]⟩)))), (3, 1, (.val (.lit (.bool true)))), (4, 1, (.tmp 162))], some (159, true)⟩,
     ⟨some 164, .call (.tmp 160) [(.tmp 163)], some (159, true)⟩,
     ⟨some 165, .pick (.tmp 159) (.tmp 164) (.val (.lit (.bool false))), none⟩,
     ⟨some 166, .val (.tmp 165), none⟩]

def o_tne5 : List AOper :=
     [⟨some 167, .build [(.lit (.int .u8 0)), (.lit (.string ⟨#[]⟩)), (.lit (.int .i64 0)), (.sl .nil 0 []), (.sl .nil 0 []), (.lit (.int .i64 0))] [(0, 1, (.val (.lit (.int .u8 2)))), (1, 1, (.val (.lit (.string ⟨#[97]⟩)))), (2, 1, (.val (.lit (.int .i64 1024))))], some (166, true)⟩,
     ⟨some 168, .bslice false 6 1 [(.lit (.int .u8 0)), (.lit (.string ⟨#[]⟩)), (.lit (.int .i64 0)), (.sl .nil 0 []), (.sl .nil 0 []), (.lit (.int .i64 0))] [(0, 6, (.tmp 167))], some (166, true)⟩,
     ⟨some 169, .call (.val (.fn (.func 11) [] [])) [(.tmp 168)], some (166, true)⟩,
     ⟨some 170, .pick (.tmp 166) (.tmp 169) (.val (.lit (.bool false))), none⟩,
     ⟨some 171, .val (.tmp 170), none⟩]

def o_tne6 : List AOper :=
     [⟨some 172, .build [(.lit (.int .u8 0)), (.lit (.string ⟨#[]⟩)), (.lit (.int .i64 0)), (.sl .nil 0 []), (.sl .nil 0 []), (.lit (.int .i64 0))] [(0, 1, (.val (.lit (.int .u8 2)))), (1, 1, (.val (.lit (.string ⟨#[97]⟩)))), (2, 1, (.val (.lit (.int .i64 1025))))], some (171, true)⟩,
     ⟨some 173, .bslice false 6 1 [(.lit (.int .u8 0)), (.lit (.string ⟨#[]⟩)), (.lit (.int .i64 0)), (.sl .nil 0 []), (.sl .nil 0 []), (.lit (.int .i64 0))] [(0, 6, (.tmp 172))], some (171, true)⟩,
     ⟨some 174, .call (.val (.fn (.func 11) [] [])) [(.tmp 173)], some (171, true)⟩,
     ⟨some 175, .un .not (.tmp 174), some (171, true)⟩,
     ⟨some 176, .pick (.tmp 171) (.tmp 175) (.val (.lit (.bool false))), none⟩,
     ⟨some 177, .val (.tmp 176), none⟩]

def o_tne7 : List AOper :=
     [⟨some 178, .build [(.lit (.int .u8 0)), (.lit (.string ⟨#[]⟩)), (.lit (.int .i64 0)), (.sl .nil 0 []), (.sl .nil 0 []), (.lit (.int .i64 0))] [(0, 1, (.val (.lit (.int .u8 2)))), (1, 1, (.val (.lit (.string ⟨#[97]⟩))))], some (177, true)⟩,
     ⟨some 179, .bslice false 6 1 [(.lit (.int .u8 0)), (.lit (.string ⟨#[]⟩)), (.lit (.int .i64 0)), (.sl .nil 0 []), (.sl .nil 0 []), (.lit (.int .i64 0))] [(0, 6, (.tmp 178))], some (177, true)⟩,
     ⟨some 180, .call (.val (.fn (.func 11) [] [])) [(.tmp 179)], some (177, true)⟩,
     ⟨some 181, .un .not (.tmp 180), some (177, true)⟩,
     ⟨some 182, .pick (.tmp 177) (.tmp 181) (.val (.lit (.bool false))), none⟩,
     ⟨some 183, .val (.tmp 182), none⟩]

def o_tne8 : List AOper :=
     [⟨some 184, .build [(.lit (.int .u8 0)), (.lit (.string ⟨#[]⟩)), (.lit (.int .i64 0)), (.sl .nil 0 []), (.sl .nil 0 []), (.lit (.int .i64 0))] [(0, 1, (.val (.lit (.int .u8 1)))), (1, 1, (.val (.lit (.string ⟨#[97]⟩)))), (2, 1, (.val (.lit (.int .i64 (-9223372036854775808)))))], some (183, true)⟩,
     ⟨some 185, .bslice false 6 1 [(.lit (.int .u8 0)), (.lit (.string ⟨#[]⟩)), (.lit (.int .i64 0)), (.sl .nil 0 []), (.sl .nil 0 []), (.lit (.int .i64 0))] [(0, 6, (.tmp 184))], some (183, true)⟩,
     ⟨some 186, .call (.val (.fn (.func 11) [] [])) [(.tmp 185)], some (183, true)⟩,
     ⟨some 187, .pick (.tmp 183) (.tmp 186) (.val (.lit (.bool false))), none⟩,
     ⟨some 188, .val (.tmp 187), none⟩]

def o_tne9 : List AOper :=
     [⟨some 189, .build [(.lit (.int .u8 0)), (.lit (.string ⟨#[]⟩)), (.lit (.int .i64 0)), (.sl .nil 0 []), (.sl .nil 0 []), (.lit (.int .i64 0))] [(0, 1, (.val (.lit (.int .u8 3)))), (1, 1, (.val (.lit (.string ⟨#[97]⟩)))), (2, 1, (.val (.lit (.int .i64 1))))], some (188, true)⟩,
     ⟨some 190, .bslice false 6 1 [(.lit (.int .u8 0)), (.lit (.string ⟨#[]⟩)), (.lit (.int .i64 0)), (.sl .nil 0 []), (.sl .nil 0 []), (.lit (.int .i64 0))] [(0, 6, (.tmp 189))], some (188, true)⟩,
     ⟨some 191, .call (.val (.fn (.func 11) [] [])) [(.tmp 190)], some (188, true)⟩,
     ⟨some 192, .un .not (.tmp 191), some (188, true)⟩,
     ⟨some 193, .pick (.tmp 188) (.tmp 192) (.val (.lit (.bool false))), none⟩,
     ⟨some 194, .val (.tmp 193), none⟩]

def o_tne10 : List AOper :=
     [⟨some 195, .bslice false 1 1 [(.lit (.string ⟨#[]⟩))] [(0, 1, (.val (.lit (.string ⟨#[98]⟩))))], some (194, true)⟩,
     ⟨some 196, .build [(.lit (.int .u8 0)), (.lit (.string ⟨#[]⟩)), (.lit (.int .i64 0)), (.sl .nil 0 []), (.sl .nil 0 []), (.lit (.int .i64 0))] [(0, 1, (.val (.lit (.int .u8 5)))), (1, 1, (.val (.lit (.string ⟨#[97]⟩)))), (3, 1, (.tmp 195))], some (194, true)⟩,
     ⟨some 197, .bslice false 6 1 [(.lit (.int .u8 0)), (.lit (.string ⟨#[]⟩)), (.lit (.int .i64 0)), (.sl .nil 0 []), (.sl .nil 0 []), (.lit (.int .i64 0))] [(0, 6, (.tmp 196))], some (194, true)⟩,
     ⟨some 198, .call (.val (.fn (.func 11) [] [])) [(.tmp 197)], some (194, true)⟩,
     ⟨some 199, .un .not (.tmp 198), some (194, true)⟩,
     ⟨some 200, .pick (.tmp 194) (.tmp 199) (.val (.lit (.bool false))), none⟩,
     ⟨some 201, .val (.tmp 200), none⟩]

def o_tne11 : List AOper :=
     [⟨some 202, .build [(.lit (.int .u8 0)), (.lit (.string ⟨#[]⟩)), (.lit (.int .i64 0)), (.sl .nil 0 []), (.sl .nil 0 []), (.lit (.int .i64 0))] [(0, 1, (.val (.lit (.int .u8 6)))), (1, 1, (.val (.lit (.string ⟨#[97]⟩))))], some (201, true)⟩,
     ⟨some 203, .bslice false 6 1 [(.lit (.int .u8 0)), (.lit (.string ⟨#[]⟩)), (.lit (.int .i64 0)), (.sl .nil 0 []), (.sl .nil 0 []), (.lit (.int .i64 0))] [(0, 6, (.tmp 202))], some (201, true)⟩,
     ⟨some 204, .call (.val (.fn (.func 11) [] [])) [(.tmp 203)], some (201, true)⟩,
     ⟨some 205, .un .not (.tmp 204), some (201, true)⟩,
     ⟨some 206, .pick (.tmp 201) (.tmp 205) (.val (.lit (.bool false))), none⟩,
     ⟨some 207, .val (.tmp 206), none⟩]

def o_tne12 : List AOper :=
     [⟨some 208, .call (.val (.fn (.func 10) [] [])) [], some (207, true)⟩,
     ⟨some 209, .pick (.tmp 207) (.tmp 208) (.val (.lit (.bool false))), none⟩,
     ⟨some 0, .val (.tmp 209), none⟩]

def l_tn : List (Nat × AOper × List Nat) :=
     [(1, ⟨some 65, .load true 5 (.tmp 1), none⟩, []),
       (2, ⟨some 66, .bslice false 5 1 [(.lit (.int .u8 0)), (.lit (.string ⟨#[]⟩)), (.lit (.int .i64 0)), (.sl .nil 0 []), (.lit (.int .i64 0))] [(0, 5, (.tmp 65))], none⟩, [1]),
       (3, ⟨some 67, .build [(.lit (.int .u8 0)), (.lit (.string ⟨#[]⟩)), (.lit (.string ⟨#[]⟩)), (.lit (.bool false)), (.sl .nil 0 []), (.sl .nil 0 []), (.sl .nil 0 []), (.lit (.int .i64 0))] [(0, 1, (.val (.lit (.int .u8 1)))), (4, 1, (.tmp 66))], none⟩, [2]),
       (5, ⟨some 69, .load true 5 (.tmp 1), none⟩, []),
       (6, ⟨some 70, .bslice false 5 1 [(.lit (.int .u8 0)), (.lit (.string ⟨#[]⟩)), (.lit (.int .i64 0)), (.sl .nil 0 []), (.lit (.int .i64 0))] [(0, 5, (.tmp 69))], none⟩, [5]),
       (7, ⟨some 71, .build [(.lit (.int .u8 0)), (.lit (.string ⟨#[]⟩)), (.lit (.string ⟨#[]⟩)), (.lit (.bool false)), (.sl .nil 0 []), (.sl .nil 0 []), (.sl .nil 0 []), (.lit (.int .i64 0))] [(0, 1, (.val (.lit (.int .u8 3)))), (1, 1, (.val (.lit (.string ⟨#[97]⟩)))), (4, 1, (.tmp 70))], none⟩, [6]),
       (9, ⟨some 73, .load true 5 (.tmp 1), none⟩, []),
       (10, ⟨some 74, .bslice false 5 1 [(.lit (.int .u8 0)), (.lit (.string ⟨#[]⟩)), (.lit (.int .i64 0)), (.sl .nil 0 []), (.lit (.int .i64 0))] [(0, 5, (.tmp 73))], none⟩, [9]),
       (11, ⟨some 75, .load true 5 (.tmp 1), none⟩, []),
       (12, ⟨some 76, .bslice false 5 1 [(.lit (.int .u8 0)), (.lit (.string ⟨#[]⟩)), (.lit (.int .i64 0)), (.sl .nil 0 []), (.lit (.int .i64 0))] [(0, 5, (.tmp 75))], none⟩, [11]),
       (13, ⟨some 77, .build [(.lit (.int .u8 0)), (.lit (.string ⟨#[]⟩)), (.lit (.string ⟨#[]⟩)), (.lit (.bool false)), (.sl .nil 0 []), (.sl .nil 0 []), (.sl .nil 0 []), (.lit (.int .i64 0))] [(0, 1, (.val (.lit (.int .u8 7)))), (4, 1, (.tmp 76))], none⟩, [12]),
       (14, ⟨some 78, .bslice false 8 1 [(.lit (.int .u8 0)), (.lit (.string ⟨#[]⟩)), (.lit (.string ⟨#[]⟩)), (.lit (.bool false)), (.sl .nil 0 []), (.sl .nil 0 []), (.sl .nil 0 []), (.lit (.int .i64 0))] [(0, 8, (.tmp 77))], none⟩, [13]),
       (15, ⟨some 79, .build [(.lit (.int .u8 0)), (.lit (.string ⟨#[]⟩)), (.lit (.string ⟨#[]⟩)), (.lit (.bool false)), (.sl .nil 0 []), (.sl .nil 0 []), (.sl .nil 0 []), (.lit (.int .i64 0))] [(0, 1, (.val (.lit (.int .u8 5)))), (4, 1, (.tmp 74)), (6, 1, (.tmp 78))], none⟩, [10, 14]),
       (17, ⟨some 81, .load true 5 (.tmp 1), none⟩, []),
       (18, ⟨some 82, .bslice false 5 1 [(.lit (.int .u8 0)), (.lit (.string ⟨#[]⟩)), (.lit (.int .i64 0)), (.sl .nil 0 []), (.lit (.int .i64 0))] [(0, 5, (.tmp 81))], none⟩, [17]),
       (19, ⟨some 83, .build [(.lit (.int .u8 0)), (.lit (.string ⟨#[]⟩)), (.lit (.string ⟨#[]⟩)), (.lit (.bool false)), (.sl .nil 0 []), (.sl .nil 0 []), (.sl .nil 0 []), (.lit (.int .i64 0))] [(0, 1, (.val (.lit (.int .u8 7)))), (1, 1, (.val (.lit (.string ⟨#[97]⟩)))), (4, 1, (.tmp 82))], none⟩, [18]),
       (22, ⟨some 86, .mkslice 5 64 [(.lit (.int .u8 0)), (.lit (.string ⟨#[]⟩)), (.lit (.int .i64 0)), (.sl .nil 0 []), (.lit (.int .i64 0))] (.val (.lit (.int .i64 9))) (.val (.lit (.int .i64 9))), none⟩, []),
       (23, ⟨some 87, .build [(.lit (.int .u8 0)), (.lit (.string ⟨#[]⟩)), (.lit (.string ⟨#[]⟩)), (.lit (.bool false)), (.sl .nil 0 []), (.sl .nil 0 []), (.sl .nil 0 []), (.lit (.int .i64 0))] [(0, 1, (.val (.lit (.int .u8 8)))), (1, 1, (.val (.lit (.string ⟨#[102]⟩)))), (4, 1, (.tmp 86))], none⟩, [22]),
       (25, ⟨some 89, .load true 5 (.tmp 1), none⟩, []),
       (26, ⟨some 90, .bslice false 5 1 [(.lit (.int .u8 0)), (.lit (.string ⟨#[]⟩)), (.lit (.int .i64 0)), (.sl .nil 0 []), (.lit (.int .i64 0))] [(0, 5, (.tmp 89))], none⟩, [25]),
       (27, ⟨some 91, .build [(.lit (.int .u8 0)), (.lit (.string ⟨#[]⟩)), (.lit (.string ⟨#[]⟩)), (.lit (.bool false)), (.sl .nil 0 []), (.sl .nil 0 []), (.sl .nil 0 []), (.lit (.int .i64 0))] [(0, 1, (.val (.lit (.int .u8 2)))), (1, 1, (.val (.lit (.string ⟨#[97]⟩)))), (2, 1, (.val (.lit (.string ⟨#[98]⟩)))), (4, 1, (.tmp 90))], none⟩, [26])]

def a_bobbinlaw02_TreeNames : ACode :=
  .seq (
   .ops [⟨some 0, .val (.val (.lit (.bool false))), none⟩]) (
  .seq (
   .ops [⟨some 17, .build [(.lit (.int .u8 0)), (.lit (.string ⟨#[]⟩)), (.lit (.int .i64 0)), (.sl .nil 0 []), (.lit (.int .i64 0))] [(0, 1, (.val (.lit (.int .u8 1)))), (2, 1, (.val (.lit (.int .i64 1))))], none⟩,
     ⟨some 1, .alloc [(.lit (.int .u8 0)), (.lit (.string ⟨#[]⟩)), (.lit (.int .i64 0)), (.sl .nil 0 []), (.lit (.int .i64 0))], none⟩,
     ⟨none, .store 5 (.tmp 1) (.tmp 17), none⟩]) (
  .seq (
   .ops [⟨some 2, .val (.val (.lit (.string ⟨#[110]⟩))), none⟩]) (
  .seq (
   .seq (
    .ops [⟨some 3, .val (.val (.lit (.int .i64 0))), none⟩]) (
   .block 0 (
     .loop a_bobbinlaw02_TreeNamesb6))) (
  .seq (
   .seq a_tn_ns (
   .block 2 (
     .loop a_bobbinlaw02_TreeNamesb5))) (
  .seq (
   .seq a_tn_es (
   .block 4 (
     .loop a_bobbinlaw02_TreeNamesb4))) (
  .seq (
   .ops [⟨some 8, .val (.val (.fn (.func 25) [] [])), none⟩]) (
  .seq (
   .seq (
    .seq a_tn_s0 (
    .seq (
     .draw l_tn) a_tn_s1)) (
   .block 6 (
     .loop a_bobbinlaw02_TreeNamesb3))) (
  .seq (
   .ops [⟨some 102, .load true 5 (.tmp 1), none⟩,
     ⟨some 11, .alloc [(.lit (.int .u8 0)), (.lit (.string ⟨#[]⟩)), (.lit (.int .i64 0)), (.sl .nil 0 []), (.lit (.int .i64 0))], none⟩,
     ⟨none, .store 5 (.tmp 11) (.tmp 102), none⟩]) (
  .seq (
   .seq (
    .ops [⟨some 12, .val (.val (.lit (.int .i64 0))), none⟩]) (
   .block 8 (
     .loop a_bobbinlaw02_TreeNamesb2))) (
  .seq a_tn_at (
  .seq a_tn_ov (
  .seq (
   .ops [⟨some 122, .mkslice 6 88 [(.lit (.int .u8 0)), (.lit (.string ⟨#[]⟩)), (.lit (.int .i64 0)), (.sl .nil 0 []), (.sl .nil 0 []), (.lit (.int .i64 0))] (.val (.lit (.int .i64 256))) (.val (.lit (.int .i64 256))), none⟩,
     ⟨some 15, .val (.tmp 122), none⟩]) (
  .seq (
   .seq (
    .ops [⟨some 123, .val (.tmp 15), none⟩,
      ⟨some 124, .len 1 (.tmp 123), none⟩,
      ⟨some 125, .val (.val (.lit (.int .i64 0))), none⟩]) (
   .block 10 (
     .loop a_bobbinlaw02_TreeNamesb1))) (
  .seq (
   .ops (o_tne0 ++ (o_tne1 ++ (o_tne2 ++ (o_tne3 ++ (o_tne4 ++ (o_tne5 ++ (o_tne6 ++ (o_tne7 ++ (o_tne8 ++ (o_tne9 ++ (o_tne10 ++ (o_tne11 ++ o_tne12))))))))))))) (
  .ret)))))))))))))))

theorem c_bobbinlaw02_TreeNames : codeOf Tryd.prog {  } 4 = some (a_bobbinlaw02_TreeNames, [.tmp 0], 210) := by kernel_rfl

/-- bobbin/bobbinlaw02.TreeNames$1 -/
def a_bobbinlaw02_TreeNames_1 : ACode :=
  .seq (
   .ops [⟨some 1, .box true (.tmp 0), none⟩,
     ⟨some 2, .val (.val (.lit (.bool false))), none⟩]) (
  .seq (
   .ops [⟨some 3, .iload true 8 (.tmp 1), none⟩,
     ⟨some 4, .bslice false 8 1 [(.lit (.int .u8 0)), (.lit (.string ⟨#[]⟩)), (.lit (.string ⟨#[]⟩)), (.lit (.bool false)), (.sl .nil 0 []), (.sl .nil 0 []), (.sl .nil 0 []), (.lit (.int .i64 0))] [(0, 8, (.tmp 3))], none⟩,
     ⟨some 5, .build [(.lit (.int .u8 0)), (.lit (.string ⟨#[]⟩)), (.lit (.int .i64 0)), (.sl .nil 0 []), (.sl .nil 0 []), (.lit (.int .i64 0))] [(0, 1, (.val (.lit (.int .u8 5)))), (1, 1, (.val (.lit (.string ⟨#[116]⟩)))), (4, 1, (.tmp 4))], none⟩,
     ⟨some 6, .bslice false 6 1 [(.lit (.int .u8 0)), (.lit (.string ⟨#[]⟩)), (.lit (.int .i64 0)), (.sl .nil 0 []), (.sl .nil 0 []), (.lit (.int .i64 0))] [(0, 6, (.tmp 5))], none⟩,
     ⟨some 7, .call (.val (.fn (.func 11) [] [])) [(.tmp 6)], none⟩,
     ⟨some 2, .val (.tmp 7), none⟩]) (
  .ret))

theorem c_bobbinlaw02_TreeNames_1 : codeOf Tryd.prog { bz := [1], il := [3] } 25 = some (a_bobbinlaw02_TreeNames_1, [.tmp 2], 8) := by kernel_rfl

end Go.Proofs.YtebopfpgicamiaaDoor
