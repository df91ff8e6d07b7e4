/- The code of functions, compiled (printed by wip/tools/kp.py). -/
import Derived.Test.YtmbbklddjkmcmaaProg
import Derived.Test.YtmbbklddjkmcmaaM3
namespace Go.Proofs.Ytmbbklddjkmcmaa
set_option linter.unusedSimpArgs false
set_option linter.unusedVariables false
open Go Go.Fw
/-- (*bobbin/dom.Tree).Order -/
def a_dom_Tree_Orderb1 : ACode :=
       .seq (
        .ops [⟨some 22, .bin .lss .num (.tmp 21) (.tmp 20), none⟩]) (
       .seq (
        .cond (.tmp 22) (
          .skip) (
          .exit 0)) (
       .seq (
        .block 1 (
          .seq (
           .ops [⟨some 23, .val (.tmp 21), none⟩,
             ⟨some 24, .indexAddr 1 (.tmp 19) (.tmp 21), none⟩,
             ⟨some 25, .load false 1 (.tmp 24), none⟩,
             ⟨some 4, .val (.tmp 23), none⟩,
             ⟨some 5, .val (.tmp 25), none⟩]) (
          .seq (
           .ops [⟨some 26, .val (.tmp 5), none⟩,
             ⟨some 27, .bin .geq .num (.tmp 26) (.val (.lit (.int .i64 0))), none⟩]) (
          .cond (.tmp 27) (
            .ops [⟨some 29, .val (.tmp 5), none⟩,
              ⟨some 31, .val (.tmp 5), none⟩,
              ⟨some 34, .val (.tmp 4), none⟩,
              ⟨some 35, .bslice false 1 1 [(.lit (.int .i64 0))] [(0, 1, (.tmp 34))], none⟩,
              ⟨some 28, .load false 1 (.tmp 3), none⟩,
              ⟨some 30, .load false 1 (.tmp 3), none⟩,
              ⟨some 32, .indexAddr 1 (.tmp 30) (.tmp 31), none⟩,
              ⟨some 33, .load false 1 (.tmp 32), none⟩,
              ⟨some 36, .sappend 1 8 (.tmp 3) (.tmp 33) (.tmp 35), none⟩,
              ⟨some 37, .indexAddr 1 (.tmp 28) (.tmp 29), none⟩,
              ⟨none, .store 1 (.tmp 37) (.tmp 36), none⟩]) (
            .skip))))) (
       .ops [⟨some 38, .bin .add .num (.tmp 21) (.val (.lit (.int .i64 1))), none⟩,
         ⟨some 21, .val (.tmp 38), none⟩])))

def a_dom_Tree_Order : ACode :=
  .seq (
   .ops [⟨some 2, .val (.val (.sl .nil 0 [])), none⟩]) (
  .seq (
   .seq (
    .ops [⟨some 8, .val (.tmp 0), none⟩,
      ⟨some 9, .bin .eql .ptr (.tmp 8) (.val (.lit (.pointer none))), none⟩]) (
   .cond (.tmp 9) (
     .seq (
      .ops [⟨some 2, .val (.val (.sl .nil 0 [])), none⟩]) (
     .ret)) (
     .skip))) (
  .seq (
   .ops [⟨some 10, .val (.tmp 0), none⟩,
     ⟨some 11, .nilck (.tmp 10), none⟩,
     ⟨some 12, .fieldAddr 0 (.tmp 11), none⟩,
     ⟨some 13, .load false 1 (.tmp 12), none⟩,
     ⟨some 14, .len 1 (.tmp 13), none⟩,
     ⟨some 15, .mkslice 1 24 [(.sl .nil 0 [])] (.tmp 14) (.tmp 14), none⟩,
     ⟨some 3, .alloc [(.sl .nil 0 [])], none⟩,
     ⟨none, .store 1 (.tmp 3) (.tmp 15), none⟩]) (
  .seq (
   .seq (
    .ops [⟨some 16, .val (.tmp 0), none⟩,
      ⟨some 17, .nilck (.tmp 16), none⟩,
      ⟨some 18, .fieldAddr 0 (.tmp 17), none⟩,
      ⟨some 19, .load false 1 (.tmp 18), none⟩,
      ⟨some 20, .len 1 (.tmp 19), none⟩,
      ⟨some 21, .val (.val (.lit (.int .i64 0))), none⟩]) (
   .block 0 (
     .loop a_dom_Tree_Orderb1))) (
  .seq (
   .ops [⟨some 6, .alloc [(.sl .nil 0 [])], none⟩]) (
  .seq (
   .ops [⟨some 7, .alloc [(.lit .nilFunc)], none⟩]) (
  .seq (
   .ops [⟨some 39, .mkfn (.func 44) [] [(.tmp 6), (.tmp 3), (.tmp 7)], none⟩,
     ⟨none, .store 1 (.tmp 7) (.tmp 39), none⟩]) (
  .seq (
   .ops [⟨some 40, .load false 1 (.tmp 7), none⟩,
     ⟨some 41, .call (.tmp 40) [(.val (.lit (.int .i64 0)))], none⟩]) (
  .seq (
   .ops [⟨some 42, .load false 1 (.tmp 6), none⟩,
     ⟨some 2, .val (.tmp 42), none⟩]) (
  .ret)))))))))

theorem c_dom_Tree_Order : codeOf Try.prog { sp := [(36, 3)] } 19 = some (a_dom_Tree_Order, [.tmp 2], 43) := by kernel_rfl

/-- (*bobbin/dom.Tree).Order$1 -/
def a_dom_Tree_Order_1b1 : ACode :=
      .seq (
       .ops [⟨some 17, .bin .lss .num (.tmp 16) (.tmp 15), none⟩]) (
      .seq (
       .cond (.tmp 17) (
         .skip) (
         .exit 0)) (
      .seq (
       .block 1 (
         .seq (
          .ops [⟨some 18, .indexAddr 1 (.tmp 14) (.tmp 16), none⟩,
            ⟨some 19, .load false 1 (.tmp 18), none⟩,
            ⟨some 6, .val (.tmp 19), none⟩]) (
         .ops [⟨some 20, .load false 1 (.tmp 3), none⟩,
           ⟨some 21, .val (.tmp 6), none⟩,
           ⟨some 22, .call (.tmp 20) [(.tmp 21)], none⟩]))) (
      .ops [⟨some 23, .bin .add .num (.tmp 16) (.val (.lit (.int .i64 1))), none⟩,
        ⟨some 16, .val (.tmp 23), none⟩])))

def a_dom_Tree_Order_1 : ACode :=
  .seq (
   .ops [⟨some 7, .load false 1 (.tmp 1), none⟩,
     ⟨some 8, .val (.tmp 0), none⟩,
     ⟨some 9, .bslice false 1 1 [(.lit (.int .i64 0))] [(0, 1, (.tmp 8))], none⟩,
     ⟨some 10, .append false 1 8 (.tmp 7) (.tmp 9), none⟩,
     ⟨none, .store 1 (.tmp 1) (.tmp 10), none⟩]) (
  .seq (
   .ops [⟨some 11, .load false 1 (.tmp 2), none⟩,
     ⟨some 12, .val (.tmp 0), none⟩,
     ⟨some 13, .indexAddr 1 (.tmp 11) (.tmp 12), none⟩,
     ⟨some 14, .load false 1 (.tmp 13), none⟩,
     ⟨some 15, .len 1 (.tmp 14), none⟩,
     ⟨some 16, .val (.val (.lit (.int .i64 0))), none⟩]) (
  .block 0 (
    .loop a_dom_Tree_Order_1b1)))

theorem c_dom_Tree_Order_1 : codeOf Try.prog {  } 44 = some (a_dom_Tree_Order_1, [], 24) := by kernel_rfl

/-- bobbin/bobbinref12.May -/
def a_bobbinref12_Mayb1 : ACode :=
              .seq (
               .seq (
                .ops [⟨some 19, .val (.tmp 4), none⟩,
                  ⟨some 20, .val (.tmp 0), none⟩,
                  ⟨some 21, .val (.tmp 3), none⟩,
                  ⟨some 22, .indexAddr 1 (.tmp 20) (.tmp 21), none⟩,
                  ⟨some 23, .load false 1 (.tmp 22), none⟩,
                  ⟨some 24, .len 1 (.tmp 23), none⟩,
                  ⟨some 25, .bin .lss .num (.tmp 19) (.tmp 24), none⟩]) (
               .cond (.tmp 25) (
                 .skip) (
                 .exit 2))) (
              .seq (
               .block 3 (
                 .seq (
                  .ops [⟨some 28, .val (.tmp 0), none⟩,
                    ⟨some 29, .val (.tmp 3), none⟩,
                    ⟨some 30, .indexAddr 1 (.tmp 28) (.tmp 29), none⟩,
                    ⟨some 31, .load false 1 (.tmp 30), none⟩,
                    ⟨some 32, .val (.tmp 4), none⟩,
                    ⟨some 33, .indexAddr 1 (.tmp 31) (.tmp 32), none⟩,
                    ⟨some 34, .load false 1 (.tmp 33), none⟩,
                    ⟨some 35, .bin .lss .num (.tmp 34) (.val (.lit (.int .i64 0))), none⟩,
                    ⟨some 36, .val (.tmp 35), none⟩,
                    ⟨some 37, .val (.tmp 0), some (36, false)⟩,
                    ⟨some 38, .val (.tmp 3), some (36, false)⟩,
                    ⟨some 39, .indexAddr 1 (.tmp 37) (.tmp 38), some (36, false)⟩,
                    ⟨some 40, .load false 1 (.tmp 39), some (36, false)⟩,
                    ⟨some 41, .val (.tmp 4), some (36, false)⟩,
                    ⟨some 42, .indexAddr 1 (.tmp 40) (.tmp 41), some (36, false)⟩,
                    ⟨some 43, .load false 1 (.tmp 42), some (36, false)⟩,
                    ⟨some 44, .val (.tmp 0), some (36, false)⟩,
                    ⟨some 45, .len 1 (.tmp 44), some (36, false)⟩,
                    ⟨some 46, .bin .geq .num (.tmp 43) (.tmp 45), some (36, false)⟩,
                    ⟨some 47, .pick (.tmp 36) (.val (.lit (.bool true))) (.tmp 46), none⟩]) (
                 .cond (.tmp 47) (
                   .seq (
                    .ops [⟨some 2, .val (.val (.lit (.bool false))), none⟩]) (
                   .ret)) (
                   .skip)))) (
              .ops [⟨some 26, .val (.tmp 4), none⟩,
                ⟨some 27, .bin .add .num (.tmp 26) (.val (.lit (.int .i64 1))), none⟩,
                ⟨some 4, .val (.tmp 27), none⟩]))

def a_bobbinref12_Mayb2 : ACode :=
       .seq (
        .seq (
         .ops [⟨some 13, .val (.tmp 3), none⟩,
           ⟨some 14, .val (.tmp 0), none⟩,
           ⟨some 15, .len 1 (.tmp 14), none⟩,
           ⟨some 16, .bin .lss .num (.tmp 13) (.tmp 15), none⟩]) (
        .cond (.tmp 16) (
          .skip) (
          .exit 0))) (
       .seq (
        .block 1 (
          .seq (
           .ops [⟨some 4, .val (.val (.lit (.int .i64 0))), none⟩]) (
          .block 2 (
            .loop a_bobbinref12_Mayb1)))) (
       .ops [⟨some 17, .val (.tmp 3), none⟩,
         ⟨some 18, .bin .add .num (.tmp 17) (.val (.lit (.int .i64 1))), none⟩,
         ⟨some 3, .val (.tmp 18), none⟩]))

def a_bobbinref12_May : ACode :=
  .seq (
   .ops [⟨some 2, .val (.val (.lit (.bool false))), none⟩]) (
  .seq (
   .seq (
    .ops [⟨some 5, .val (.tmp 0), none⟩,
      ⟨some 6, .len 1 (.tmp 5), none⟩,
      ⟨some 7, .bin .lss .num (.tmp 6) (.val (.lit (.int .i64 1))), none⟩,
      ⟨some 8, .val (.tmp 7), none⟩,
      ⟨some 9, .val (.tmp 0), some (8, false)⟩,
      ⟨some 10, .len 1 (.tmp 9), some (8, false)⟩,
      ⟨some 11, .bin .gtr .num (.tmp 10) (.val (.lit (.int .i64 32768))), some (8, false)⟩,
      ⟨some 12, .pick (.tmp 8) (.val (.lit (.bool true))) (.tmp 11), none⟩]) (
   .cond (.tmp 12) (
     .seq (
      .ops [⟨some 2, .val (.val (.lit (.bool false))), none⟩]) (
     .ret)) (
     .skip))) (
  .seq (
   .seq (
    .ops [⟨some 3, .val (.val (.lit (.int .i64 0))), none⟩]) (
   .block 0 (
     .loop a_bobbinref12_Mayb2))) (
  .seq (
   .ops [⟨some 2, .val (.val (.lit (.bool true))), none⟩]) (
  .ret))))

theorem c_bobbinref12_May : codeOf Try.prog {  } 42 = some (a_bobbinref12_May, [.tmp 2], 48) := by kernel_rfl

/-- bobbin/bobbinref12.Come -/
def a_bobbinref12_Comeb1 : ACode :=
             .seq (
              .seq (
               .ops [⟨some 27, .val (.tmp 8), none⟩,
                 ⟨some 28, .val (.tmp 0), none⟩,
                 ⟨some 29, .val (.tmp 7), none⟩,
                 ⟨some 30, .indexAddr 1 (.tmp 28) (.tmp 29), none⟩,
                 ⟨some 31, .load false 1 (.tmp 30), none⟩,
                 ⟨some 32, .len 1 (.tmp 31), none⟩,
                 ⟨some 33, .bin .lss .num (.tmp 27) (.tmp 32), none⟩]) (
              .cond (.tmp 33) (
                .skip) (
                .exit 2))) (
             .seq (
              .block 3 (
                .seq (
                 .ops [⟨some 36, .val (.tmp 0), none⟩,
                   ⟨some 37, .val (.tmp 7), none⟩,
                   ⟨some 38, .indexAddr 1 (.tmp 36) (.tmp 37), none⟩,
                   ⟨some 39, .load false 1 (.tmp 38), none⟩,
                   ⟨some 40, .val (.tmp 8), none⟩,
                   ⟨some 41, .indexAddr 1 (.tmp 39) (.tmp 40), none⟩,
                   ⟨some 42, .load false 1 (.tmp 41), none⟩,
                   ⟨some 9, .val (.tmp 42), none⟩]) (
                .seq (
                 .ops [⟨some 43, .val (.tmp 9), none⟩,
                   ⟨some 44, .val (.tmp 1), none⟩,
                   ⟨some 45, .bin .neq .num (.tmp 43) (.tmp 44), none⟩,
                   ⟨some 46, .val (.tmp 45), none⟩,
                   ⟨some 47, .val (.tmp 5), some (46, true)⟩,
                   ⟨some 48, .val (.tmp 9), some (46, true)⟩,
                   ⟨some 49, .indexAddr 1 (.tmp 47) (.tmp 48), some (46, true)⟩,
                   ⟨some 50, .load false 1 (.tmp 49), some (46, true)⟩,
                   ⟨some 51, .un .not (.tmp 50), some (46, true)⟩,
                   ⟨some 52, .pick (.tmp 46) (.tmp 51) (.val (.lit (.bool false))), none⟩]) (
                .cond (.tmp 52) (
                  .seq (
                   .ops [⟨some 53, .val (.tmp 5), none⟩,
                     ⟨some 54, .val (.tmp 9), none⟩,
                     ⟨some 55, .indexAddr 1 (.tmp 53) (.tmp 54), none⟩,
                     ⟨none, .store 1 (.tmp 55) (.val (.lit (.bool true))), none⟩]) (
                  .ops [⟨some 56, .val (.tmp 6), none⟩,
                    ⟨some 57, .val (.tmp 9), none⟩,
                    ⟨some 58, .bslice false 1 1 [(.lit (.int .i64 0))] [(0, 1, (.tmp 57))], none⟩,
                    ⟨some 59, .append false 1 8 (.tmp 56) (.tmp 58), none⟩,
                    ⟨some 6, .val (.tmp 59), none⟩])) (
                  .skip))))) (
             .ops [⟨some 34, .val (.tmp 8), none⟩,
               ⟨some 35, .bin .add .num (.tmp 34) (.val (.lit (.int .i64 1))), none⟩,
               ⟨some 8, .val (.tmp 35), none⟩]))

def a_bobbinref12_Comeb2 : ACode :=
       .seq (
        .seq (
         .ops [⟨some 19, .val (.tmp 6), none⟩,
           ⟨some 20, .len 1 (.tmp 19), none⟩,
           ⟨some 21, .bin .gtr .num (.tmp 20) (.val (.lit (.int .i64 0))), none⟩]) (
        .cond (.tmp 21) (
          .skip) (
          .exit 0))) (
       .block 1 (
         .seq (
          .ops [⟨some 22, .val (.tmp 6), none⟩,
            ⟨some 23, .indexAddr 1 (.tmp 22) (.val (.lit (.int .i64 0))), none⟩,
            ⟨some 24, .load false 1 (.tmp 23), none⟩,
            ⟨some 7, .val (.tmp 24), none⟩]) (
         .seq (
          .ops [⟨some 25, .val (.tmp 6), none⟩,
            ⟨some 26, .slice 1 (.tmp 25) (some (.val (.lit (.int .i64 1)))) none none, none⟩,
            ⟨some 6, .val (.tmp 26), none⟩]) (
         .seq (
          .ops [⟨some 8, .val (.val (.lit (.int .i64 0))), none⟩]) (
         .block 2 (
           .loop a_bobbinref12_Comeb1))))))

def a_bobbinref12_Come : ACode :=
  .seq (
   .ops [⟨some 4, .val (.val (.sl .nil 0 [])), none⟩]) (
  .seq (
   .ops [⟨some 10, .val (.tmp 0), none⟩,
     ⟨some 11, .len 1 (.tmp 10), none⟩,
     ⟨some 12, .mkslice 1 1 [(.lit (.bool false))] (.tmp 11) (.tmp 11), none⟩,
     ⟨some 5, .val (.tmp 12), none⟩]) (
  .seq (
   .seq (
    .ops [⟨some 13, .val (.tmp 1), none⟩,
      ⟨some 14, .bin .eql .num (.tmp 13) (.val (.lit (.int .i64 0))), none⟩]) (
   .cond (.tmp 14) (
     .seq (
      .ops [⟨some 15, .val (.tmp 5), none⟩,
        ⟨some 4, .val (.tmp 15), none⟩]) (
     .ret)) (
     .skip))) (
  .seq (
   .ops [⟨some 16, .bslice true 1 1 [(.lit (.int .i64 0))] [(0, 1, (.val (.lit (.int .i64 0))))], none⟩,
     ⟨some 6, .val (.tmp 16), none⟩]) (
  .seq (
   .ops [⟨some 17, .val (.tmp 5), none⟩,
     ⟨some 18, .indexAddr 1 (.tmp 17) (.val (.lit (.int .i64 0))), none⟩,
     ⟨none, .store 1 (.tmp 18) (.val (.lit (.bool true))), none⟩]) (
  .seq (
   .block 0 (
     .loop a_bobbinref12_Comeb2)) (
  .seq (
   .ops [⟨some 60, .val (.tmp 5), none⟩,
     ⟨some 4, .val (.tmp 60), none⟩]) (
  .ret)))))))

theorem c_bobbinref12_Come : codeOf Try.prog { mu := [16] } 43 = some (a_bobbinref12_Come, [.tmp 4], 61) := by kernel_rfl

/-- bobbin/bobbinref12.Of -/
def a_bobbinref12_Ofb1 : ACode :=
                 .seq (
                  .seq (
                   .ops [⟨some 35, .val (.tmp 8), none⟩,
                     ⟨some 36, .val (.tmp 0), none⟩,
                     ⟨some 37, .len 1 (.tmp 36), none⟩,
                     ⟨some 38, .bin .lss .num (.tmp 35) (.tmp 37), none⟩]) (
                  .cond (.tmp 38) (
                    .skip) (
                    .exit 2))) (
                 .seq (
                  .block 3 (
                    .ops [⟨some 41, .val (.tmp 6), none⟩,
                      ⟨some 42, .val (.tmp 8), none⟩,
                      ⟨some 43, .val (.tmp 4), none⟩,
                      ⟨some 44, .nilck (.tmp 43), none⟩,
                      ⟨some 45, .fieldAddr 1 (.tmp 44), none⟩,
                      ⟨some 46, .load false 1 (.tmp 45), none⟩,
                      ⟨some 47, .val (.tmp 8), none⟩,
                      ⟨some 48, .indexAddr 1 (.tmp 46) (.tmp 47), none⟩,
                      ⟨some 49, .load false 1 (.tmp 48), none⟩,
                      ⟨some 50, .val (.tmp 49), none⟩,
                      ⟨some 51, .val (.tmp 7), some (50, true)⟩,
                      ⟨some 52, .val (.tmp 8), some (50, true)⟩,
                      ⟨some 53, .indexAddr 1 (.tmp 51) (.tmp 52), some (50, true)⟩,
                      ⟨some 54, .load false 1 (.tmp 53), some (50, true)⟩,
                      ⟨some 55, .un .not (.tmp 54), some (50, true)⟩,
                      ⟨some 56, .pick (.tmp 50) (.tmp 55) (.val (.lit (.bool false))), none⟩,
                      ⟨some 57, .indexAddr 1 (.tmp 41) (.tmp 42), none⟩,
                      ⟨none, .store 1 (.tmp 57) (.tmp 56), none⟩])) (
                 .ops [⟨some 39, .val (.tmp 8), none⟩,
                   ⟨some 40, .bin .add .num (.tmp 39) (.val (.lit (.int .i64 1))), none⟩,
                   ⟨some 8, .val (.tmp 40), none⟩]))

def a_bobbinref12_Ofb2 : ACode :=
       .seq (
        .seq (
         .ops [⟨some 16, .val (.tmp 5), none⟩,
           ⟨some 17, .val (.tmp 0), none⟩,
           ⟨some 18, .len 1 (.tmp 17), none⟩,
           ⟨some 19, .bin .lss .num (.tmp 16) (.tmp 18), none⟩]) (
        .cond (.tmp 19) (
          .skip) (
          .exit 0))) (
       .seq (
        .block 1 (
          .seq (
           .ops [⟨some 22, .val (.tmp 0), none⟩,
             ⟨some 23, .len 1 (.tmp 22), none⟩,
             ⟨some 24, .mkslice 1 1 [(.lit (.bool false))] (.tmp 23) (.tmp 23), none⟩,
             ⟨some 6, .val (.tmp 24), none⟩]) (
          .seq (
           .seq (
            .ops [⟨some 25, .val (.tmp 4), none⟩,
              ⟨some 26, .nilck (.tmp 25), none⟩,
              ⟨some 27, .fieldAddr 1 (.tmp 26), none⟩,
              ⟨some 28, .load false 1 (.tmp 27), none⟩,
              ⟨some 29, .val (.tmp 5), none⟩,
              ⟨some 30, .indexAddr 1 (.tmp 28) (.tmp 29), none⟩,
              ⟨some 31, .load false 1 (.tmp 30), none⟩]) (
           .cond (.tmp 31) (
             .seq (
              .ops [⟨some 32, .val (.tmp 0), none⟩,
                ⟨some 33, .val (.tmp 5), none⟩,
                ⟨some 34, .call (.val (.fn (.func 43) [] [])) [(.tmp 32), (.tmp 33)], none⟩,
                ⟨some 7, .val (.tmp 34), none⟩]) (
             .seq (
              .ops [⟨some 8, .val (.val (.lit (.int .i64 0))), none⟩]) (
             .block 2 (
               .loop a_bobbinref12_Ofb1)))) (
             .skip))) (
          .ops [⟨some 58, .val (.tmp 4), none⟩,
            ⟨some 59, .val (.tmp 4), none⟩,
            ⟨some 60, .nilck (.tmp 59), none⟩,
            ⟨some 61, .fieldAddr 0 (.tmp 60), none⟩,
            ⟨some 62, .load false 1 (.tmp 61), none⟩,
            ⟨some 63, .val (.tmp 6), none⟩,
            ⟨some 64, .bslice false 1 1 [(.sl .nil 0 [])] [(0, 1, (.tmp 63))], none⟩,
            ⟨some 65, .append false 1 24 (.tmp 62) (.tmp 64), none⟩,
            ⟨some 66, .nilck (.tmp 58), none⟩,
            ⟨some 67, .fieldAddr 0 (.tmp 66), none⟩,
            ⟨none, .store 1 (.tmp 67) (.tmp 65), none⟩])))) (
       .ops [⟨some 20, .val (.tmp 5), none⟩,
         ⟨some 21, .bin .add .num (.tmp 20) (.val (.lit (.int .i64 1))), none⟩,
         ⟨some 5, .val (.tmp 21), none⟩]))

def a_bobbinref12_Of : ACode :=
  .seq (
   .ops [⟨some 2, .val (.val (.lit (.pointer none))), none⟩,
     ⟨some 3, .val (.val (.lit (.int .i64 0))), none⟩]) (
  .seq (
   .seq (
    .ops [⟨some 9, .val (.tmp 0), none⟩,
      ⟨some 10, .call (.val (.fn (.func 42) [] [])) [(.tmp 9)], none⟩,
      ⟨some 11, .un .not (.tmp 10), none⟩]) (
   .cond (.tmp 11) (
     .seq (
      .ops [⟨some 2, .val (.val (.lit (.pointer none))), none⟩,
        ⟨some 3, .val (.val (.lit (.int .i64 4))), none⟩]) (
     .ret)) (
     .skip))) (
  .seq (
   .ops [⟨some 12, .val (.tmp 0), none⟩,
     ⟨some 13, .call (.val (.fn (.func 43) [] [])) [(.tmp 12), (.val (.lit (.int .i64 (-1))))], none⟩,
     ⟨some 14, .build [(.sl .nil 0 []), (.sl .nil 0 [])] [(1, 1, (.tmp 13))], none⟩,
     ⟨some 15, .box false (.tmp 14), none⟩,
     ⟨some 4, .val (.tmp 15), none⟩]) (
  .seq (
   .seq (
    .ops [⟨some 5, .val (.val (.lit (.int .i64 0))), none⟩]) (
   .block 0 (
     .loop a_bobbinref12_Ofb2))) (
  .seq (
   .ops [⟨some 68, .val (.tmp 4), none⟩,
     ⟨some 2, .val (.tmp 68), none⟩,
     ⟨some 3, .val (.val (.lit (.int .i64 0))), none⟩]) (
  .ret)))))

theorem c_bobbinref12_Of : codeOf Try.prog {  } 17 = some (a_bobbinref12_Of, [.tmp 2, .tmp 3], 69) := by kernel_rfl

/-- (*bobbin/bobbinref12.Tree).Is -/
def a_bobbinref12_Tree_Is : ACode :=
  .seq (
   .ops [⟨some 6, .val (.val (.lit (.bool false))), none⟩]) (
  .seq (
   .ops [⟨some 7, .val (.tmp 1), none⟩,
     ⟨some 8, .bin .geq .num (.tmp 7) (.val (.lit (.int .i64 0))), none⟩,
     ⟨some 9, .val (.tmp 8), none⟩,
     ⟨some 10, .val (.tmp 2), some (9, true)⟩,
     ⟨some 11, .bin .geq .num (.tmp 10) (.val (.lit (.int .i64 0))), some (9, true)⟩,
     ⟨some 12, .pick (.tmp 9) (.tmp 11) (.val (.lit (.bool false))), none⟩,
     ⟨some 13, .val (.tmp 12), none⟩,
     ⟨some 14, .val (.tmp 1), some (13, true)⟩,
     ⟨some 15, .val (.tmp 0), some (13, true)⟩,
     ⟨some 16, .nilck (.tmp 15), some (13, true)⟩,
     ⟨some 17, .fieldAddr 0 (.tmp 16), some (13, true)⟩,
     ⟨some 18, .load false 1 (.tmp 17), some (13, true)⟩,
     ⟨some 19, .len 1 (.tmp 18), some (13, true)⟩,
     ⟨some 20, .bin .lss .num (.tmp 14) (.tmp 19), some (13, true)⟩,
     ⟨some 21, .pick (.tmp 13) (.tmp 20) (.val (.lit (.bool false))), none⟩,
     ⟨some 22, .val (.tmp 21), none⟩,
     ⟨some 23, .val (.tmp 2), some (22, true)⟩,
     ⟨some 24, .val (.tmp 0), some (22, true)⟩,
     ⟨some 25, .nilck (.tmp 24), some (22, true)⟩,
     ⟨some 26, .fieldAddr 0 (.tmp 25), some (22, true)⟩,
     ⟨some 27, .load false 1 (.tmp 26), some (22, true)⟩,
     ⟨some 28, .len 1 (.tmp 27), some (22, true)⟩,
     ⟨some 29, .bin .lss .num (.tmp 23) (.tmp 28), some (22, true)⟩,
     ⟨some 30, .pick (.tmp 22) (.tmp 29) (.val (.lit (.bool false))), none⟩,
     ⟨some 31, .val (.tmp 30), none⟩,
     ⟨some 32, .val (.tmp 0), some (31, true)⟩,
     ⟨some 33, .nilck (.tmp 32), some (31, true)⟩,
     ⟨some 34, .fieldAddr 0 (.tmp 33), some (31, true)⟩,
     ⟨some 35, .load false 1 (.tmp 34), some (31, true)⟩,
     ⟨some 36, .val (.tmp 1), some (31, true)⟩,
     ⟨some 37, .indexAddr 1 (.tmp 35) (.tmp 36), some (31, true)⟩,
     ⟨some 38, .load false 1 (.tmp 37), some (31, true)⟩,
     ⟨some 39, .val (.tmp 2), some (31, true)⟩,
     ⟨some 40, .indexAddr 1 (.tmp 38) (.tmp 39), some (31, true)⟩,
     ⟨some 41, .load false 1 (.tmp 40), some (31, true)⟩,
     ⟨some 42, .pick (.tmp 31) (.tmp 41) (.val (.lit (.bool false))), none⟩,
     ⟨some 6, .val (.tmp 42), none⟩]) (
  .ret))

theorem c_bobbinref12_Tree_Is : codeOf Try.prog {  } 27 = some (a_bobbinref12_Tree_Is, [.tmp 6], 43) := by kernel_rfl

/-- (*bobbin/bobbinref12.Tree).Next -/
def a_bobbinref12_Tree_Nextb1 : ACode :=
               .seq (
                .seq (
                 .ops [⟨some 54, .val (.tmp 7), none⟩,
                   ⟨some 55, .val (.tmp 0), none⟩,
                   ⟨some 56, .nilck (.tmp 55), none⟩,
                   ⟨some 57, .fieldAddr 0 (.tmp 56), none⟩,
                   ⟨some 58, .load false 1 (.tmp 57), none⟩,
                   ⟨some 59, .len 1 (.tmp 58), none⟩,
                   ⟨some 60, .bin .lss .num (.tmp 54) (.tmp 59), none⟩]) (
                .cond (.tmp 60) (
                  .skip) (
                  .exit 2))) (
               .seq (
                .block 3 (
                  .seq (
                   .ops [⟨some 63, .val (.tmp 7), none⟩,
                     ⟨some 64, .val (.tmp 1), none⟩,
                     ⟨some 65, .bin .neq .num (.tmp 63) (.tmp 64), none⟩,
                     ⟨some 66, .val (.tmp 65), none⟩,
                     ⟨some 67, .val (.tmp 0), some (66, true)⟩,
                     ⟨some 68, .nilck (.tmp 67), some (66, true)⟩,
                     ⟨some 69, .fieldAddr 0 (.tmp 68), some (66, true)⟩,
                     ⟨some 70, .load false 1 (.tmp 69), some (66, true)⟩,
                     ⟨some 71, .val (.tmp 7), some (66, true)⟩,
                     ⟨some 72, .indexAddr 1 (.tmp 70) (.tmp 71), some (66, true)⟩,
                     ⟨some 73, .load false 1 (.tmp 72), some (66, true)⟩,
                     ⟨some 74, .val (.tmp 1), some (66, true)⟩,
                     ⟨some 75, .indexAddr 1 (.tmp 73) (.tmp 74), some (66, true)⟩,
                     ⟨some 76, .load false 1 (.tmp 75), some (66, true)⟩,
                     ⟨some 77, .pick (.tmp 66) (.tmp 76) (.val (.lit (.bool false))), none⟩,
                     ⟨some 78, .val (.tmp 77), none⟩,
                     ⟨some 79, .val (.tmp 0), some (78, true)⟩,
                     ⟨some 80, .nilck (.tmp 79), some (78, true)⟩,
                     ⟨some 81, .fieldAddr 0 (.tmp 80), some (78, true)⟩,
                     ⟨some 82, .load false 1 (.tmp 81), some (78, true)⟩,
                     ⟨some 83, .val (.tmp 7), some (78, true)⟩,
                     ⟨some 84, .indexAddr 1 (.tmp 82) (.tmp 83), some (78, true)⟩,
                     ⟨some 85, .load false 1 (.tmp 84), some (78, true)⟩,
                     ⟨some 86, .val (.tmp 5), some (78, true)⟩,
                     ⟨some 87, .indexAddr 1 (.tmp 85) (.tmp 86), some (78, true)⟩,
                     ⟨some 88, .load false 1 (.tmp 87), some (78, true)⟩,
                     ⟨some 89, .un .not (.tmp 88), some (78, true)⟩,
                     ⟨some 90, .pick (.tmp 78) (.tmp 89) (.val (.lit (.bool false))), none⟩]) (
                  .cond (.tmp 90) (
                    .ops [⟨some 6, .val (.val (.lit (.bool false))), none⟩]) (
                    .skip)))) (
               .ops [⟨some 61, .val (.tmp 7), none⟩,
                 ⟨some 62, .bin .add .num (.tmp 61) (.val (.lit (.int .i64 1))), none⟩,
                 ⟨some 7, .val (.tmp 62), none⟩]))

def a_bobbinref12_Tree_Nextb2 : ACode :=
       .seq (
        .seq (
         .ops [⟨some 29, .val (.tmp 5), none⟩,
           ⟨some 30, .val (.tmp 0), none⟩,
           ⟨some 31, .nilck (.tmp 30), none⟩,
           ⟨some 32, .fieldAddr 0 (.tmp 31), none⟩,
           ⟨some 33, .load false 1 (.tmp 32), none⟩,
           ⟨some 34, .len 1 (.tmp 33), none⟩,
           ⟨some 35, .bin .lss .num (.tmp 29) (.tmp 34), none⟩]) (
        .cond (.tmp 35) (
          .skip) (
          .exit 0))) (
       .seq (
        .block 1 (
          .seq (
           .seq (
            .ops [⟨some 38, .val (.tmp 5), none⟩,
              ⟨some 39, .val (.tmp 1), none⟩,
              ⟨some 40, .bin .eql .num (.tmp 38) (.tmp 39), none⟩,
              ⟨some 41, .val (.tmp 40), none⟩,
              ⟨some 42, .val (.tmp 0), some (41, false)⟩,
              ⟨some 43, .nilck (.tmp 42), some (41, false)⟩,
              ⟨some 44, .fieldAddr 0 (.tmp 43), some (41, false)⟩,
              ⟨some 45, .load false 1 (.tmp 44), some (41, false)⟩,
              ⟨some 46, .val (.tmp 5), some (41, false)⟩,
              ⟨some 47, .indexAddr 1 (.tmp 45) (.tmp 46), some (41, false)⟩,
              ⟨some 48, .load false 1 (.tmp 47), some (41, false)⟩,
              ⟨some 49, .val (.tmp 1), some (41, false)⟩,
              ⟨some 50, .indexAddr 1 (.tmp 48) (.tmp 49), some (41, false)⟩,
              ⟨some 51, .load false 1 (.tmp 50), some (41, false)⟩,
              ⟨some 52, .un .not (.tmp 51), some (41, false)⟩,
              ⟨some 53, .pick (.tmp 41) (.val (.lit (.bool true))) (.tmp 52), none⟩]) (
           .cond (.tmp 53) (
             .exit 1) (
             .skip))) (
          .seq (
           .ops [⟨some 6, .val (.val (.lit (.bool true))), none⟩]) (
          .seq (
           .seq (
            .ops [⟨some 7, .val (.val (.lit (.int .i64 0))), none⟩]) (
           .block 2 (
             .loop a_bobbinref12_Tree_Nextb1))) (
          .seq (
           .ops [⟨some 91, .val (.tmp 6), none⟩]) (
          .cond (.tmp 91) (
            .seq (
             .ops [⟨some 92, .val (.tmp 5), none⟩,
               ⟨some 4, .val (.tmp 92), none⟩]) (
            .ret)) (
            .skip))))))) (
       .ops [⟨some 36, .val (.tmp 5), none⟩,
         ⟨some 37, .bin .add .num (.tmp 36) (.val (.lit (.int .i64 1))), none⟩,
         ⟨some 5, .val (.tmp 37), none⟩]))

def a_bobbinref12_Tree_Next : ACode :=
  .seq (
   .ops [⟨some 4, .val (.val (.lit (.int .i64 0))), none⟩]) (
  .seq (
   .seq (
    .ops [⟨some 8, .val (.tmp 1), none⟩,
      ⟨some 9, .bin .lss .num (.tmp 8) (.val (.lit (.int .i64 0))), none⟩,
      ⟨some 10, .val (.tmp 9), none⟩,
      ⟨some 11, .val (.tmp 1), some (10, false)⟩,
      ⟨some 12, .val (.tmp 0), some (10, false)⟩,
      ⟨some 13, .nilck (.tmp 12), some (10, false)⟩,
      ⟨some 14, .fieldAddr 0 (.tmp 13), some (10, false)⟩,
      ⟨some 15, .load false 1 (.tmp 14), some (10, false)⟩,
      ⟨some 16, .len 1 (.tmp 15), some (10, false)⟩,
      ⟨some 17, .bin .geq .num (.tmp 11) (.tmp 16), some (10, false)⟩,
      ⟨some 18, .pick (.tmp 10) (.val (.lit (.bool true))) (.tmp 17), none⟩,
      ⟨some 19, .val (.tmp 18), none⟩,
      ⟨some 20, .val (.tmp 0), some (19, false)⟩,
      ⟨some 21, .nilck (.tmp 20), some (19, false)⟩,
      ⟨some 22, .fieldAddr 1 (.tmp 21), some (19, false)⟩,
      ⟨some 23, .load false 1 (.tmp 22), some (19, false)⟩,
      ⟨some 24, .val (.tmp 1), some (19, false)⟩,
      ⟨some 25, .indexAddr 1 (.tmp 23) (.tmp 24), some (19, false)⟩,
      ⟨some 26, .load false 1 (.tmp 25), some (19, false)⟩,
      ⟨some 27, .un .not (.tmp 26), some (19, false)⟩,
      ⟨some 28, .pick (.tmp 19) (.val (.lit (.bool true))) (.tmp 27), none⟩]) (
   .cond (.tmp 28) (
     .seq (
      .ops [⟨some 4, .val (.val (.lit (.int .i64 (-1)))), none⟩]) (
     .ret)) (
     .skip))) (
  .seq (
   .seq (
    .ops [⟨some 5, .val (.val (.lit (.int .i64 0))), none⟩]) (
   .block 0 (
     .loop a_bobbinref12_Tree_Nextb2))) (
  .seq (
   .ops [⟨some 4, .val (.val (.lit (.int .i64 (-1)))), none⟩]) (
  .ret))))

theorem c_bobbinref12_Tree_Next : codeOf Try.prog {  } 23 = some (a_bobbinref12_Tree_Next, [.tmp 4], 93) := by kernel_rfl

/-- (*bobbin/bobbinref12.Tree).Kids -/
def a_bobbinref12_Tree_Kidsb1 : ACode :=
       .seq (
        .seq (
         .ops [⟨some 7, .val (.tmp 6), none⟩,
           ⟨some 8, .val (.tmp 0), none⟩,
           ⟨some 9, .nilck (.tmp 8), none⟩,
           ⟨some 10, .fieldAddr 0 (.tmp 9), none⟩,
           ⟨some 11, .load false 1 (.tmp 10), none⟩,
           ⟨some 12, .len 1 (.tmp 11), none⟩,
           ⟨some 13, .bin .lss .num (.tmp 7) (.tmp 12), none⟩]) (
        .cond (.tmp 13) (
          .skip) (
          .exit 0))) (
       .seq (
        .block 1 (
          .seq (
           .ops [⟨some 16, .val (.tmp 6), none⟩,
             ⟨some 17, .bin .neq .num (.tmp 16) (.val (.lit (.int .i64 0))), none⟩,
             ⟨some 18, .val (.tmp 17), none⟩,
             ⟨some 19, .val (.tmp 0), some (18, true)⟩,
             ⟨some 20, .nilck (.tmp 19), some (18, true)⟩,
             ⟨some 21, .fieldAddr 1 (.tmp 20), some (18, true)⟩,
             ⟨some 22, .load false 1 (.tmp 21), some (18, true)⟩,
             ⟨some 23, .val (.tmp 6), some (18, true)⟩,
             ⟨some 24, .indexAddr 1 (.tmp 22) (.tmp 23), some (18, true)⟩,
             ⟨some 25, .load false 1 (.tmp 24), some (18, true)⟩,
             ⟨some 26, .pick (.tmp 18) (.tmp 25) (.val (.lit (.bool false))), none⟩,
             ⟨some 27, .val (.tmp 26), none⟩,
             ⟨some 28, .val (.tmp 0), some (27, true)⟩,
             ⟨some 29, .val (.tmp 6), some (27, true)⟩,
             ⟨some 30, .call (.val (.fn (.func 23) [] [])) [(.tmp 28), (.tmp 29)], some (27, true)⟩,
             ⟨some 31, .val (.tmp 1), some (27, true)⟩,
             ⟨some 32, .bin .eql .num (.tmp 30) (.tmp 31), some (27, true)⟩,
             ⟨some 33, .pick (.tmp 27) (.tmp 32) (.val (.lit (.bool false))), none⟩]) (
          .cond (.tmp 33) (
            .ops [⟨some 34, .val (.tmp 5), none⟩,
              ⟨some 35, .val (.tmp 6), none⟩,
              ⟨some 36, .bslice false 1 1 [(.lit (.int .i64 0))] [(0, 1, (.tmp 35))], none⟩,
              ⟨some 37, .append false 1 8 (.tmp 34) (.tmp 36), none⟩,
              ⟨some 5, .val (.tmp 37), none⟩]) (
            .skip)))) (
       .ops [⟨some 14, .val (.tmp 6), none⟩,
         ⟨some 15, .bin .add .num (.tmp 14) (.val (.lit (.int .i64 1))), none⟩,
         ⟨some 6, .val (.tmp 15), none⟩]))

def a_bobbinref12_Tree_Kids : ACode :=
  .seq (
   .ops [⟨some 4, .val (.val (.sl .nil 0 [])), none⟩]) (
  .seq (
   .ops [⟨some 5, .val (.val (.sl .nil 0 [])), none⟩]) (
  .seq (
   .seq (
    .ops [⟨some 6, .val (.val (.lit (.int .i64 0))), none⟩]) (
   .block 0 (
     .loop a_bobbinref12_Tree_Kidsb1))) (
  .seq (
   .ops [⟨some 38, .val (.tmp 5), none⟩,
     ⟨some 4, .val (.tmp 38), none⟩]) (
  .ret))))

theorem c_bobbinref12_Tree_Kids : codeOf Try.prog {  } 25 = some (a_bobbinref12_Tree_Kids, [.tmp 4], 39) := by kernel_rfl

/-- (*bobbin/bobbinref12.Tree).From -/
def a_bobbinref12_Tree_Fromb1 : ACode :=
       .seq (
        .seq (
         .ops [⟨some 13, .val (.tmp 7), none⟩,
           ⟨some 14, .val (.tmp 6), none⟩,
           ⟨some 15, .len 1 (.tmp 14), none⟩,
           ⟨some 16, .bin .lss .num (.tmp 13) (.tmp 15), none⟩]) (
        .cond (.tmp 16) (
          .skip) (
          .exit 0))) (
       .seq (
        .block 1 (
          .ops [⟨some 19, .val (.tmp 5), none⟩,
            ⟨some 20, .val (.tmp 0), none⟩,
            ⟨some 21, .val (.tmp 6), none⟩,
            ⟨some 22, .val (.tmp 7), none⟩,
            ⟨some 23, .indexAddr 1 (.tmp 21) (.tmp 22), none⟩,
            ⟨some 24, .load false 1 (.tmp 23), none⟩,
            ⟨some 25, .call (.val (.fn (.func 20) [] [])) [(.tmp 20), (.tmp 24)], none⟩,
            ⟨some 26, .append false 1 8 (.tmp 19) (.tmp 25), none⟩,
            ⟨some 5, .val (.tmp 26), none⟩])) (
       .ops [⟨some 17, .val (.tmp 7), none⟩,
         ⟨some 18, .bin .add .num (.tmp 17) (.val (.lit (.int .i64 1))), none⟩,
         ⟨some 7, .val (.tmp 18), none⟩]))

def a_bobbinref12_Tree_From : ACode :=
  .seq (
   .ops [⟨some 4, .val (.val (.sl .nil 0 [])), none⟩]) (
  .seq (
   .ops [⟨some 8, .val (.tmp 1), none⟩,
     ⟨some 9, .bslice true 1 1 [(.lit (.int .i64 0))] [(0, 1, (.tmp 8))], none⟩,
     ⟨some 5, .val (.tmp 9), none⟩]) (
  .seq (
   .ops [⟨some 10, .val (.tmp 0), none⟩,
     ⟨some 11, .val (.tmp 1), none⟩,
     ⟨some 12, .call (.val (.fn (.func 25) [] [])) [(.tmp 10), (.tmp 11)], none⟩,
     ⟨some 6, .val (.tmp 12), none⟩]) (
  .seq (
   .seq (
    .ops [⟨some 7, .val (.val (.lit (.int .i64 0))), none⟩]) (
   .block 0 (
     .loop a_bobbinref12_Tree_Fromb1))) (
  .seq (
   .ops [⟨some 27, .val (.tmp 5), none⟩,
     ⟨some 4, .val (.tmp 27), none⟩]) (
  .ret)))))

theorem c_bobbinref12_Tree_From : codeOf Try.prog { mu := [9] } 20 = some (a_bobbinref12_Tree_From, [.tmp 4], 28) := by kernel_rfl

/-- bobbin/bobbinref12.Ints -/
def a_bobbinref12_Intsb1 : ACode :=
       .seq (
        .seq (
         .ops [⟨some 11, .val (.tmp 5), none⟩,
           ⟨some 12, .val (.tmp 0), none⟩,
           ⟨some 13, .len 1 (.tmp 12), none⟩,
           ⟨some 14, .bin .lss .num (.tmp 11) (.tmp 13), none⟩]) (
        .cond (.tmp 14) (
          .skip) (
          .exit 0))) (
       .seq (
        .block 1 (
          .seq (
           .ops [⟨some 17, .val (.tmp 0), none⟩,
             ⟨some 18, .val (.tmp 5), none⟩,
             ⟨some 19, .indexAddr 1 (.tmp 17) (.tmp 18), none⟩,
             ⟨some 21, .val (.tmp 1), none⟩,
             ⟨some 22, .val (.tmp 5), none⟩,
             ⟨some 23, .indexAddr 1 (.tmp 21) (.tmp 22), none⟩,
             ⟨some 20, .load false 1 (.tmp 19), none⟩,
             ⟨some 24, .load false 1 (.tmp 23), none⟩,
             ⟨some 25, .bin .neq .num (.tmp 20) (.tmp 24), none⟩]) (
          .cond (.tmp 25) (
            .seq (
             .ops [⟨some 4, .val (.val (.lit (.bool false))), none⟩]) (
            .ret)) (
            .skip)))) (
       .ops [⟨some 15, .val (.tmp 5), none⟩,
         ⟨some 16, .bin .add .num (.tmp 15) (.val (.lit (.int .i64 1))), none⟩,
         ⟨some 5, .val (.tmp 16), none⟩]))

def a_bobbinref12_Ints : ACode :=
  .seq (
   .ops [⟨some 4, .val (.val (.lit (.bool false))), none⟩]) (
  .seq (
   .seq (
    .ops [⟨some 6, .val (.tmp 0), none⟩,
      ⟨some 7, .len 1 (.tmp 6), none⟩,
      ⟨some 8, .val (.tmp 1), none⟩,
      ⟨some 9, .len 1 (.tmp 8), none⟩,
      ⟨some 10, .bin .neq .num (.tmp 7) (.tmp 9), none⟩]) (
   .cond (.tmp 10) (
     .seq (
      .ops [⟨some 4, .val (.val (.lit (.bool false))), none⟩]) (
     .ret)) (
     .skip))) (
  .seq (
   .seq (
    .ops [⟨some 5, .val (.val (.lit (.int .i64 0))), none⟩]) (
   .block 0 (
     .loop a_bobbinref12_Intsb1))) (
  .seq (
   .ops [⟨some 4, .val (.val (.lit (.bool true))), none⟩]) (
  .ret))))

theorem c_bobbinref12_Ints : codeOf Try.prog {  } 31 = some (a_bobbinref12_Ints, [.tmp 4], 26) := by kernel_rfl

/-- bobbin/bobbinlaw12.long -/
def a_bobbinlaw12_longb1 : ACode :=
       .seq (
        .seq (
         .ops [⟨some 8, .val (.tmp 4), none⟩,
           ⟨some 9, .val (.tmp 0), none⟩,
           ⟨some 10, .len 1 (.tmp 9), none⟩,
           ⟨some 11, .bin .lss .num (.tmp 8) (.tmp 10), none⟩]) (
        .cond (.tmp 11) (
          .skip) (
          .exit 0))) (
       .seq (
        .block 1 (
          .seq (
           .seq (
            .ops [⟨some 14, .val (.tmp 0), none⟩,
              ⟨some 15, .val (.tmp 4), none⟩,
              ⟨some 16, .indexAddr 1 (.tmp 14) (.tmp 15), none⟩,
              ⟨some 17, .load false 1 (.tmp 16), none⟩,
              ⟨some 18, .len 1 (.tmp 17), none⟩,
              ⟨some 19, .bin .gtr .num (.tmp 18) (.val (.lit (.int .i64 60))), none⟩]) (
           .cond (.tmp 19) (
             .seq (
              .ops [⟨some 2, .val (.val (.lit (.bool true))), none⟩]) (
             .ret)) (
             .skip))) (
          .ops [⟨some 20, .val (.tmp 3), none⟩,
            ⟨some 21, .val (.tmp 0), none⟩,
            ⟨some 22, .val (.tmp 4), none⟩,
            ⟨some 23, .indexAddr 1 (.tmp 21) (.tmp 22), none⟩,
            ⟨some 24, .load false 1 (.tmp 23), none⟩,
            ⟨some 25, .len 1 (.tmp 24), none⟩,
            ⟨some 26, .bin .add .num (.tmp 20) (.tmp 25), none⟩,
            ⟨some 3, .val (.tmp 26), none⟩]))) (
       .ops [⟨some 12, .val (.tmp 4), none⟩,
         ⟨some 13, .bin .add .num (.tmp 12) (.val (.lit (.int .i64 1))), none⟩,
         ⟨some 4, .val (.tmp 13), none⟩]))

def a_bobbinlaw12_long : ACode :=
  .seq (
   .ops [⟨some 2, .val (.val (.lit (.bool false))), none⟩]) (
  .seq (
   .seq (
    .ops [⟨some 5, .val (.tmp 0), none⟩,
      ⟨some 6, .len 1 (.tmp 5), none⟩,
      ⟨some 7, .bin .gtr .num (.tmp 6) (.val (.lit (.int .i64 40))), none⟩]) (
   .cond (.tmp 7) (
     .seq (
      .ops [⟨some 2, .val (.val (.lit (.bool true))), none⟩]) (
     .ret)) (
     .skip))) (
  .seq (
   .ops [⟨some 3, .val (.val (.lit (.int .i64 0))), none⟩]) (
  .seq (
   .seq (
    .ops [⟨some 4, .val (.val (.lit (.int .i64 0))), none⟩]) (
   .block 0 (
     .loop a_bobbinlaw12_longb1))) (
  .seq (
   .ops [⟨some 27, .val (.tmp 3), none⟩,
     ⟨some 28, .bin .gtr .num (.tmp 27) (.val (.lit (.int .i64 200))), none⟩,
     ⟨some 2, .val (.tmp 28), none⟩]) (
  .ret)))))

theorem c_bobbinlaw12_long : codeOf Try.prog {  } 14 = some (a_bobbinlaw12_long, [.tmp 2], 29) := by kernel_rfl

/-- bobbin/bobbinlaw12.same -/
def a_bobbinlaw12_sameb1 : ACode :=
       .seq (
        .seq (
         .ops [⟨some 10, .val (.tmp 6), none⟩,
           ⟨some 11, .val (.tmp 0), none⟩,
           ⟨some 12, .len 1 (.tmp 11), none⟩,
           ⟨some 13, .bin .lss .num (.tmp 10) (.tmp 12), none⟩]) (
        .cond (.tmp 13) (
          .skip) (
          .exit 0))) (
       .seq (
        .block 1 (
          .ops [⟨some 16, .val (.tmp 0), none⟩,
            ⟨some 17, .val (.tmp 6), none⟩,
            ⟨some 18, .indexAddr 1 (.tmp 16) (.tmp 17), none⟩,
            ⟨none, .store 1 (.tmp 18) (.val (.lit (.int .i64 (-7)))), none⟩])) (
       .ops [⟨some 14, .val (.tmp 6), none⟩,
         ⟨some 15, .bin .add .num (.tmp 14) (.val (.lit (.int .i64 1))), none⟩,
         ⟨some 6, .val (.tmp 15), none⟩]))

def a_bobbinlaw12_same : ACode :=
  .seq (
   .ops [⟨some 4, .val (.val (.lit (.bool false))), none⟩]) (
  .seq (
   .ops [⟨some 7, .val (.tmp 0), none⟩,
     ⟨some 8, .val (.tmp 1), none⟩,
     ⟨some 9, .call (.val (.fn (.func 31) [] [])) [(.tmp 7), (.tmp 8)], none⟩,
     ⟨some 5, .val (.tmp 9), none⟩]) (
  .seq (
   .seq (
    .ops [⟨some 6, .val (.val (.lit (.int .i64 0))), none⟩]) (
   .block 0 (
     .loop a_bobbinlaw12_sameb1))) (
  .seq (
   .ops [⟨some 19, .val (.tmp 5), none⟩,
     ⟨some 4, .val (.tmp 19), none⟩]) (
  .ret))))

theorem c_bobbinlaw12_same : codeOf Try.prog {  } 18 = some (a_bobbinlaw12_same, [.tmp 4], 20) := by kernel_rfl

/-- bobbin/bobbinlaw12.awake -/
def a_bobbinlaw12_awake : ACode :=
  .seq (
   .ops [⟨some 0, .val (.val (.lit (.bool false))), none⟩]) (
  .seq (
   .ops [⟨some 4, .bslice false 1 2 [(.lit (.int .i64 0)), (.lit (.int .i64 0))] [(0, 1, (.val (.lit (.int .i64 1)))), (1, 1, (.val (.lit (.int .i64 2))))], none⟩,
     ⟨some 5, .bslice false 1 1 [(.lit (.int .i64 0))] [(0, 1, (.val (.lit (.int .i64 3))))], none⟩,
     ⟨some 6, .bslice false 1 1 [(.lit (.int .i64 0))] [(0, 1, (.val (.lit (.int .i64 3))))], none⟩,
     ⟨some 7, .bslice false 1 4 [(.sl .nil 0 []), (.sl .nil 0 []), (.sl .nil 0 []), (.sl .nil 0 [])] [(0, 1, (.tmp 4)), (1, 1, (.tmp 5)), (2, 1, (.tmp 6)), (3, 1, (.val (.sl .nil 0 [])))], none⟩,
     ⟨some 8, .call (.val (.fn (.func 16) [] [])) [(.tmp 7)], none⟩,
     ⟨some 3, .val (.tmp 8), none⟩,
     ⟨some 9, .extract (.tmp 3) 0, none⟩,
     ⟨some 10, .extract (.tmp 3) 1, none⟩,
     ⟨some 1, .val (.tmp 9), none⟩,
     ⟨some 2, .val (.tmp 10), none⟩]) (
  .seq (
   .ops [⟨some 11, .val (.tmp 2), none⟩,
     ⟨some 12, .bin .eql .num (.tmp 11) (.val (.lit (.int .i64 0))), none⟩,
     ⟨some 13, .val (.tmp 12), none⟩,
     ⟨some 14, .val (.tmp 1), some (13, true)⟩,
     ⟨some 15, .call (.val (.fn (.func 22) [] [])) [(.tmp 14), (.val (.lit (.int .i64 3)))], some (13, true)⟩,
     ⟨some 16, .bin .eql .num (.tmp 15) (.val (.lit (.int .i64 0))), some (13, true)⟩,
     ⟨some 17, .pick (.tmp 13) (.tmp 16) (.val (.lit (.bool false))), none⟩,
     ⟨some 18, .val (.tmp 17), none⟩,
     ⟨some 19, .val (.tmp 1), some (18, true)⟩,
     ⟨some 20, .call (.val (.fn (.func 24) [] [])) [(.tmp 19), (.val (.lit (.int .i64 0)))], some (18, true)⟩,
     ⟨some 21, .bslice false 1 3 [(.lit (.int .i64 0)), (.lit (.int .i64 0)), (.lit (.int .i64 0))] [(0, 1, (.val (.lit (.int .i64 1)))), (1, 1, (.val (.lit (.int .i64 2)))), (2, 1, (.val (.lit (.int .i64 3))))], some (18, true)⟩,
     ⟨some 22, .call (.val (.fn (.func 31) [] [])) [(.tmp 20), (.tmp 21)], some (18, true)⟩,
     ⟨some 23, .pick (.tmp 18) (.tmp 22) (.val (.lit (.bool false))), none⟩,
     ⟨some 24, .val (.tmp 23), none⟩,
     ⟨some 25, .val (.tmp 1), some (24, true)⟩,
     ⟨some 26, .call (.val (.fn (.func 19) [] [])) [(.tmp 25)], some (24, true)⟩,
     ⟨some 27, .bslice false 1 4 [(.lit (.int .i64 0)), (.lit (.int .i64 0)), (.lit (.int .i64 0)), (.lit (.int .i64 0))] [(0, 1, (.val (.lit (.int .i64 0)))), (1, 1, (.val (.lit (.int .i64 1)))), (2, 1, (.val (.lit (.int .i64 2)))), (3, 1, (.val (.lit (.int .i64 3))))], some (24, true)⟩,
     ⟨some 28, .call (.val (.fn (.func 31) [] [])) [(.tmp 26), (.tmp 27)], some (24, true)⟩,
     ⟨some 29, .pick (.tmp 24) (.tmp 28) (.val (.lit (.bool false))), none⟩,
     ⟨some 30, .val (.tmp 29), none⟩,
     ⟨some 31, .val (.tmp 1), some (30, true)⟩,
     ⟨some 32, .call (.val (.fn (.func 26) [] [])) [(.tmp 31), (.val (.lit (.int .i64 0))), (.val (.lit (.int .i64 3)))], some (30, true)⟩,
     ⟨some 33, .pick (.tmp 30) (.tmp 32) (.val (.lit (.bool false))), none⟩,
     ⟨some 34, .val (.tmp 33), none⟩,
     ⟨some 35, .val (.tmp 1), some (34, true)⟩,
     ⟨some 36, .call (.val (.fn (.func 26) [] [])) [(.tmp 35), (.val (.lit (.int .i64 1))), (.val (.lit (.int .i64 3)))], some (34, true)⟩,
     ⟨some 37, .un .not (.tmp 36), some (34, true)⟩,
     ⟨some 38, .pick (.tmp 34) (.tmp 37) (.val (.lit (.bool false))), none⟩,
     ⟨some 0, .val (.tmp 38), none⟩]) (
  .ret)))

theorem c_bobbinlaw12_awake : codeOf Try.prog {  } 15 = some (a_bobbinlaw12_awake, [.tmp 0], 39) := by kernel_rfl

/-- bobbin/bobbinlaw12.DomTells -/
def a_bobbinlaw12_DomTellsb1 : ACode :=
                     .seq (
                      .seq (
                       .ops [⟨some 108, .val (.tmp 10), none⟩,
                         ⟨some 109, .val (.tmp 0), none⟩,
                         ⟨some 110, .len 1 (.tmp 109), none⟩,
                         ⟨some 111, .bin .leq .num (.tmp 108) (.tmp 110), none⟩]) (
                      .cond (.tmp 111) (
                        .skip) (
                        .exit 4))) (
                     .seq (
                      .block 5 (
                        .seq (
                         .ops [⟨some 114, .val (.tmp 3), none⟩,
                           ⟨some 115, .val (.tmp 10), none⟩,
                           ⟨some 116, .val (.tmp 8), none⟩,
                           ⟨some 117, .call (.val (.fn (.func 26) [] [])) [(.tmp 114), (.tmp 115), (.tmp 116)], none⟩,
                           ⟨some 118, .val (.tmp 5), none⟩,
                           ⟨some 119, .val (.tmp 10), none⟩,
                           ⟨some 120, .val (.tmp 8), none⟩,
                           ⟨some 121, .call (.val (.fn (.func 27) [] [])) [(.tmp 118), (.tmp 119), (.tmp 120)], none⟩,
                           ⟨some 122, .bin .neq .bool (.tmp 117) (.tmp 121), none⟩]) (
                        .cond (.tmp 122) (
                          .seq (
                           .ops [⟨some 2, .val (.val (.lit (.bool false))), none⟩]) (
                          .ret)) (
                          .skip)))) (
                     .ops [⟨some 112, .val (.tmp 10), none⟩,
                       ⟨some 113, .bin .add .num (.tmp 112) (.val (.lit (.int .i64 1))), none⟩,
                       ⟨some 10, .val (.tmp 113), none⟩]))

def a_bobbinlaw12_DomTellsb2 : ACode :=
              .seq (
               .seq (
                .ops [⟨some 47, .val (.tmp 8), none⟩,
                  ⟨some 48, .val (.tmp 0), none⟩,
                  ⟨some 49, .len 1 (.tmp 48), none⟩,
                  ⟨some 50, .bin .leq .num (.tmp 47) (.tmp 49), none⟩]) (
               .cond (.tmp 50) (
                 .skip) (
                 .exit 2))) (
              .seq (
               .block 3 (
                 .seq (
                  .ops [⟨some 53, .val (.tmp 8), none⟩,
                    ⟨some 54, .bin .geq .num (.tmp 53) (.val (.lit (.int .i64 0))), none⟩,
                    ⟨some 55, .val (.tmp 54), none⟩,
                    ⟨some 56, .val (.tmp 8), some (55, true)⟩,
                    ⟨some 57, .val (.tmp 0), some (55, true)⟩,
                    ⟨some 58, .len 1 (.tmp 57), some (55, true)⟩,
                    ⟨some 59, .bin .lss .num (.tmp 56) (.tmp 58), some (55, true)⟩,
                    ⟨some 60, .pick (.tmp 55) (.tmp 59) (.val (.lit (.bool false))), none⟩,
                    ⟨some 9, .val (.tmp 60), none⟩]) (
                 .seq (
                  .seq (
                   .ops [⟨some 61, .val (.tmp 3), none⟩,
                     ⟨some 62, .val (.tmp 8), none⟩,
                     ⟨some 63, .call (.val (.fn (.func 21) [] [])) [(.tmp 61), (.tmp 62)], none⟩,
                     ⟨some 64, .val (.tmp 9), none⟩,
                     ⟨some 65, .val (.tmp 64), none⟩,
                     ⟨some 66, .val (.tmp 5), some (65, true)⟩,
                     ⟨some 67, .nilck (.tmp 66), some (65, true)⟩,
                     ⟨some 68, .fieldAddr 1 (.tmp 67), some (65, true)⟩,
                     ⟨some 69, .load false 1 (.tmp 68), some (65, true)⟩,
                     ⟨some 70, .val (.tmp 8), some (65, true)⟩,
                     ⟨some 71, .indexAddr 1 (.tmp 69) (.tmp 70), some (65, true)⟩,
                     ⟨some 72, .load false 1 (.tmp 71), some (65, true)⟩,
                     ⟨some 73, .pick (.tmp 65) (.tmp 72) (.val (.lit (.bool false))), none⟩,
                     ⟨some 74, .bin .neq .bool (.tmp 63) (.tmp 73), none⟩,
                     ⟨some 75, .val (.tmp 74), none⟩,
                     ⟨some 76, .val (.tmp 3), some (75, false)⟩,
                     ⟨some 77, .val (.tmp 8), some (75, false)⟩,
                     ⟨some 78, .call (.val (.fn (.func 22) [] [])) [(.tmp 76), (.tmp 77)], some (75, false)⟩,
                     ⟨some 79, .val (.tmp 5), some (75, false)⟩,
                     ⟨some 80, .val (.tmp 8), some (75, false)⟩,
                     ⟨some 81, .call (.val (.fn (.func 23) [] [])) [(.tmp 79), (.tmp 80)], some (75, false)⟩,
                     ⟨some 82, .bin .neq .num (.tmp 78) (.tmp 81), some (75, false)⟩,
                     ⟨some 83, .pick (.tmp 75) (.val (.lit (.bool true))) (.tmp 82), none⟩,
                     ⟨some 84, .val (.tmp 83), none⟩,
                     ⟨some 85, .val (.tmp 3), some (84, false)⟩,
                     ⟨some 86, .val (.tmp 8), some (84, false)⟩,
                     ⟨some 87, .call (.val (.fn (.func 24) [] [])) [(.tmp 85), (.tmp 86)], some (84, false)⟩,
                     ⟨some 88, .val (.tmp 5), some (84, false)⟩,
                     ⟨some 89, .val (.tmp 8), some (84, false)⟩,
                     ⟨some 90, .call (.val (.fn (.func 25) [] [])) [(.tmp 88), (.tmp 89)], some (84, false)⟩,
                     ⟨some 91, .call (.val (.fn (.func 18) [] [])) [(.tmp 87), (.tmp 90)], some (84, false)⟩,
                     ⟨some 92, .un .not (.tmp 91), some (84, false)⟩,
                     ⟨some 93, .val (.tmp 92), some (84, false)⟩,
                     ⟨some 94, .val (.tmp 9), some (93, true)⟩,
                     ⟨some 95, .pick (.tmp 93) (.tmp 94) (.val (.lit (.bool false))), some (84, false)⟩,
                     ⟨some 96, .pick (.tmp 84) (.val (.lit (.bool true))) (.tmp 95), none⟩,
                     ⟨some 97, .val (.tmp 96), none⟩,
                     ⟨some 98, .val (.tmp 9), some (97, false)⟩,
                     ⟨some 99, .un .not (.tmp 98), some (97, false)⟩,
                     ⟨some 100, .val (.tmp 99), some (97, false)⟩,
                     ⟨some 101, .val (.tmp 3), some (100, true)⟩,
                     ⟨some 102, .val (.tmp 8), some (100, true)⟩,
                     ⟨some 103, .call (.val (.fn (.func 24) [] [])) [(.tmp 101), (.tmp 102)], some (100, true)⟩,
                     ⟨some 104, .len 1 (.tmp 103), some (100, true)⟩,
                     ⟨some 105, .bin .neq .num (.tmp 104) (.val (.lit (.int .i64 0))), some (100, true)⟩,
                     ⟨some 106, .pick (.tmp 100) (.tmp 105) (.val (.lit (.bool false))), some (97, false)⟩,
                     ⟨some 107, .pick (.tmp 97) (.val (.lit (.bool true))) (.tmp 106), none⟩]) (
                  .cond (.tmp 107) (
                    .seq (
                     .ops [⟨some 2, .val (.val (.lit (.bool false))), none⟩]) (
                    .ret)) (
                    .skip))) (
                 .seq (
                  .ops [⟨some 10, .val (.val (.lit (.int .i64 (-1)))), none⟩]) (
                 .block 4 (
                   .loop a_bobbinlaw12_DomTellsb1)))))) (
              .ops [⟨some 51, .val (.tmp 8), none⟩,
                ⟨some 52, .bin .add .num (.tmp 51) (.val (.lit (.int .i64 1))), none⟩,
                ⟨some 8, .val (.tmp 52), none⟩]))

def a_bobbinlaw12_DomTellsb3 : ACode :=
       .seq (
        .seq (
         .ops [⟨some 37, .val (.tmp 7), none⟩,
           ⟨some 38, .bin .lss .num (.tmp 37) (.val (.lit (.int .i64 2))), none⟩]) (
        .cond (.tmp 38) (
          .skip) (
          .exit 0))) (
       .seq (
        .block 1 (
          .seq (
           .seq (
            .ops [⟨some 41, .val (.tmp 3), none⟩,
              ⟨some 42, .call (.val (.fn (.func 19) [] [])) [(.tmp 41)], none⟩,
              ⟨some 43, .val (.tmp 5), none⟩,
              ⟨some 44, .call (.val (.fn (.func 20) [] [])) [(.tmp 43), (.val (.lit (.int .i64 0)))], none⟩,
              ⟨some 45, .call (.val (.fn (.func 18) [] [])) [(.tmp 42), (.tmp 44)], none⟩,
              ⟨some 46, .un .not (.tmp 45), none⟩]) (
           .cond (.tmp 46) (
             .seq (
              .ops [⟨some 2, .val (.val (.lit (.bool false))), none⟩]) (
             .ret)) (
             .skip))) (
          .seq (
           .ops [⟨some 8, .val (.val (.lit (.int .i64 (-1)))), none⟩]) (
          .block 2 (
            .loop a_bobbinlaw12_DomTellsb2))))) (
       .ops [⟨some 39, .val (.tmp 7), none⟩,
         ⟨some 40, .bin .add .num (.tmp 39) (.val (.lit (.int .i64 1))), none⟩,
         ⟨some 7, .val (.tmp 40), none⟩]))

def a_bobbinlaw12_DomTells : ACode :=
  .seq (
   .ops [⟨some 2, .val (.val (.lit (.bool false))), none⟩]) (
  .seq (
   .seq (
    .ops [⟨some 11, .val (.tmp 0), none⟩,
      ⟨some 12, .call (.val (.fn (.func 14) [] [])) [(.tmp 11)], none⟩]) (
   .cond (.tmp 12) (
     .seq (
      .ops [⟨some 13, .call (.val (.fn (.func 15) [] [])) [], none⟩,
        ⟨some 2, .val (.tmp 13), none⟩]) (
     .ret)) (
     .skip))) (
  .seq (
   .ops [⟨some 15, .val (.tmp 0), none⟩,
     ⟨some 16, .call (.val (.fn (.func 16) [] [])) [(.tmp 15)], none⟩,
     ⟨some 14, .val (.tmp 16), none⟩,
     ⟨some 17, .extract (.tmp 14) 0, none⟩,
     ⟨some 18, .extract (.tmp 14) 1, none⟩,
     ⟨some 3, .val (.tmp 17), none⟩,
     ⟨some 4, .val (.tmp 18), none⟩]) (
  .seq (
   .ops [⟨some 20, .val (.tmp 0), none⟩,
     ⟨some 21, .call (.val (.fn (.func 17) [] [])) [(.tmp 20)], none⟩,
     ⟨some 19, .val (.tmp 21), none⟩,
     ⟨some 22, .extract (.tmp 19) 0, none⟩,
     ⟨some 23, .extract (.tmp 19) 1, none⟩,
     ⟨some 5, .val (.tmp 22), none⟩,
     ⟨some 6, .val (.tmp 23), none⟩]) (
  .seq (
   .seq (
    .ops [⟨some 24, .val (.tmp 4), none⟩,
      ⟨some 25, .val (.tmp 6), none⟩,
      ⟨some 26, .bin .neq .num (.tmp 24) (.tmp 25), none⟩,
      ⟨some 27, .val (.tmp 26), none⟩,
      ⟨some 28, .val (.tmp 3), some (27, false)⟩,
      ⟨some 29, .bin .eql .ptr (.tmp 28) (.val (.lit (.pointer none))), some (27, false)⟩,
      ⟨some 30, .val (.tmp 4), some (27, false)⟩,
      ⟨some 31, .bin .neq .num (.tmp 30) (.val (.lit (.int .i64 0))), some (27, false)⟩,
      ⟨some 32, .bin .neq .bool (.tmp 29) (.tmp 31), some (27, false)⟩,
      ⟨some 33, .pick (.tmp 27) (.val (.lit (.bool true))) (.tmp 32), none⟩]) (
   .cond (.tmp 33) (
     .seq (
      .ops [⟨some 2, .val (.val (.lit (.bool false))), none⟩]) (
     .ret)) (
     .skip))) (
  .seq (
   .seq (
    .ops [⟨some 34, .val (.tmp 4), none⟩,
      ⟨some 35, .bin .neq .num (.tmp 34) (.val (.lit (.int .i64 0))), none⟩]) (
   .cond (.tmp 35) (
     .seq (
      .ops [⟨some 36, .call (.val (.fn (.func 15) [] [])) [], none⟩,
        ⟨some 2, .val (.tmp 36), none⟩]) (
     .ret)) (
     .skip))) (
  .seq (
   .seq (
    .ops [⟨some 7, .val (.val (.lit (.int .i64 0))), none⟩]) (
   .block 0 (
     .loop a_bobbinlaw12_DomTellsb3))) (
  .seq (
   .ops [⟨some 123, .call (.val (.fn (.func 15) [] [])) [], none⟩,
     ⟨some 2, .val (.tmp 123), none⟩]) (
  .ret))))))))

theorem c_bobbinlaw12_DomTells : codeOf Try.prog {  } 3 = some (a_bobbinlaw12_DomTells, [.tmp 2], 124) := by kernel_rfl

/-- bobbin/bobbinlaw12.DomNames -/
def a_bobbinlaw12_DomNames : ACode :=
  .seq (
   .ops [⟨some 0, .val (.val (.lit (.bool false))), none⟩]) (
  .seq (
   .ops [⟨some 1, .val (.val (.lit (.pointer none))), none⟩]) (
  .seq (
   .ops [⟨some 15, .call (.val (.fn (.func 16) [] [])) [(.val (.sl .nil 0 []))], none⟩,
     ⟨some 14, .val (.tmp 15), none⟩,
     ⟨some 16, .extract (.tmp 14) 0, none⟩,
     ⟨some 17, .extract (.tmp 14) 1, none⟩,
     ⟨some 2, .val (.tmp 16), none⟩,
     ⟨some 3, .val (.tmp 17), none⟩]) (
  .seq (
   .ops [⟨some 19, .bslice false 1 1 [(.lit (.int .i64 0))] [(0, 1, (.val (.lit (.int .i64 1))))], none⟩,
     ⟨some 20, .bslice false 1 1 [(.sl .nil 0 [])] [(0, 1, (.tmp 19))], none⟩,
     ⟨some 21, .call (.val (.fn (.func 16) [] [])) [(.tmp 20)], none⟩,
     ⟨some 18, .val (.tmp 21), none⟩,
     ⟨some 22, .extract (.tmp 18) 0, none⟩,
     ⟨some 23, .extract (.tmp 18) 1, none⟩,
     ⟨some 4, .val (.tmp 22), none⟩,
     ⟨some 5, .val (.tmp 23), none⟩]) (
  .seq (
   .ops [⟨some 25, .bslice false 1 1 [(.lit (.int .i64 0))] [(0, 1, (.val (.lit (.int .i64 (-1)))))], none⟩,
     ⟨some 26, .bslice false 1 1 [(.sl .nil 0 [])] [(0, 1, (.tmp 25))], none⟩,
     ⟨some 27, .call (.val (.fn (.func 16) [] [])) [(.tmp 26)], none⟩,
     ⟨some 24, .val (.tmp 27), none⟩,
     ⟨some 28, .extract (.tmp 24) 0, none⟩,
     ⟨some 29, .extract (.tmp 24) 1, none⟩,
     ⟨some 6, .val (.tmp 28), none⟩,
     ⟨some 7, .val (.tmp 29), none⟩]) (
  .seq (
   .ops [⟨some 31, .mkslice 1 24 [(.sl .nil 0 [])] (.val (.lit (.int .i64 32769))) (.val (.lit (.int .i64 32769))), none⟩,
     ⟨some 32, .call (.val (.fn (.func 16) [] [])) [(.tmp 31)], none⟩,
     ⟨some 30, .val (.tmp 32), none⟩,
     ⟨some 33, .extract (.tmp 30) 0, none⟩,
     ⟨some 34, .extract (.tmp 30) 1, none⟩,
     ⟨some 8, .val (.tmp 33), none⟩,
     ⟨some 9, .val (.tmp 34), none⟩]) (
  .seq (
   .ops [⟨some 36, .bslice false 1 1 [(.lit (.int .i64 0))] [(0, 1, (.val (.lit (.int .i64 1))))], none⟩,
     ⟨some 37, .bslice false 1 1 [(.lit (.int .i64 0))] [(0, 1, (.val (.lit (.int .i64 2))))], none⟩,
     ⟨some 38, .bslice false 1 2 [(.lit (.int .i64 0)), (.lit (.int .i64 0))] [(0, 1, (.val (.lit (.int .i64 1)))), (1, 1, (.val (.lit (.int .i64 3))))], none⟩,
     ⟨some 39, .bslice false 1 1 [(.lit (.int .i64 0))] [(0, 1, (.val (.lit (.int .i64 0))))], none⟩,
     ⟨some 40, .bslice false 1 5 [(.sl .nil 0 []), (.sl .nil 0 []), (.sl .nil 0 []), (.sl .nil 0 []), (.sl .nil 0 [])] [(0, 1, (.tmp 36)), (1, 1, (.tmp 37)), (2, 1, (.tmp 38)), (3, 1, (.val (.sl .nil 0 []))), (4, 1, (.tmp 39))], none⟩,
     ⟨some 41, .call (.val (.fn (.func 16) [] [])) [(.tmp 40)], none⟩,
     ⟨some 35, .val (.tmp 41), none⟩,
     ⟨some 42, .extract (.tmp 35) 0, none⟩,
     ⟨some 43, .extract (.tmp 35) 1, none⟩,
     ⟨some 10, .val (.tmp 42), none⟩,
     ⟨some 11, .val (.tmp 43), none⟩]) (
  .seq (
   .seq (
    .ops [⟨some 44, .val (.tmp 11), none⟩,
      ⟨some 45, .bin .neq .num (.tmp 44) (.val (.lit (.int .i64 0))), none⟩]) (
   .cond (.tmp 45) (
     .seq (
      .ops [⟨some 0, .val (.val (.lit (.bool false))), none⟩]) (
     .ret)) (
     .skip))) (
  .seq (
   .ops [⟨some 47, .bslice false 1 1 [(.sl .nil 0 [])] [(0, 1, (.val (.sl .nil 0 [])))], none⟩,
     ⟨some 48, .call (.val (.fn (.func 16) [] [])) [(.tmp 47)], none⟩,
     ⟨some 46, .val (.tmp 48), none⟩,
     ⟨some 49, .extract (.tmp 46) 0, none⟩,
     ⟨some 50, .extract (.tmp 46) 1, none⟩,
     ⟨some 12, .val (.tmp 49), none⟩,
     ⟨some 13, .val (.tmp 50), none⟩]) (
  .seq (
   .seq (
    .ops [⟨some 51, .val (.tmp 13), none⟩,
      ⟨some 52, .bin .neq .num (.tmp 51) (.val (.lit (.int .i64 0))), none⟩]) (
   .cond (.tmp 52) (
     .seq (
      .ops [⟨some 0, .val (.val (.lit (.bool false))), none⟩]) (
     .ret)) (
     .skip))) (
  .seq (
   .ops [⟨some 53, .val (.tmp 3), none⟩,
     ⟨some 54, .bin .eql .num (.tmp 53) (.val (.lit (.int .i64 4))), none⟩,
     ⟨some 55, .val (.tmp 54), none⟩,
     ⟨some 56, .val (.tmp 5), some (55, true)⟩,
     ⟨some 57, .bin .eql .num (.tmp 56) (.val (.lit (.int .i64 4))), some (55, true)⟩,
     ⟨some 58, .pick (.tmp 55) (.tmp 57) (.val (.lit (.bool false))), none⟩,
     ⟨some 59, .val (.tmp 58), none⟩,
     ⟨some 60, .val (.tmp 7), some (59, true)⟩,
     ⟨some 61, .bin .eql .num (.tmp 60) (.val (.lit (.int .i64 4))), some (59, true)⟩,
     ⟨some 62, .pick (.tmp 59) (.tmp 61) (.val (.lit (.bool false))), none⟩,
     ⟨some 63, .val (.tmp 62), none⟩,
     ⟨some 64, .val (.tmp 9), some (63, true)⟩,
     ⟨some 65, .bin .eql .num (.tmp 64) (.val (.lit (.int .i64 4))), some (63, true)⟩,
     ⟨some 66, .pick (.tmp 63) (.tmp 65) (.val (.lit (.bool false))), none⟩,
     ⟨some 67, .val (.tmp 66), none⟩,
     ⟨some 68, .val (.tmp 10), some (67, true)⟩,
     ⟨some 69, .call (.val (.fn (.func 22) [] [])) [(.tmp 68), (.val (.lit (.int .i64 3)))], some (67, true)⟩,
     ⟨some 70, .bin .eql .num (.tmp 69) (.val (.lit (.int .i64 2))), some (67, true)⟩,
     ⟨some 71, .pick (.tmp 67) (.tmp 70) (.val (.lit (.bool false))), none⟩,
     ⟨some 72, .val (.tmp 71), none⟩,
     ⟨some 73, .val (.tmp 10), some (72, true)⟩,
     ⟨some 74, .call (.val (.fn (.func 26) [] [])) [(.tmp 73), (.val (.lit (.int .i64 1))), (.val (.lit (.int .i64 3)))], some (72, true)⟩,
     ⟨some 75, .pick (.tmp 72) (.tmp 74) (.val (.lit (.bool false))), none⟩,
     ⟨some 76, .val (.tmp 75), none⟩,
     ⟨some 77, .val (.tmp 10), some (76, true)⟩,
     ⟨some 78, .call (.val (.fn (.func 26) [] [])) [(.tmp 77), (.val (.lit (.int .i64 3))), (.val (.lit (.int .i64 1)))], some (76, true)⟩,
     ⟨some 79, .un .not (.tmp 78), some (76, true)⟩,
     ⟨some 80, .pick (.tmp 76) (.tmp 79) (.val (.lit (.bool false))), none⟩,
     ⟨some 81, .val (.tmp 80), none⟩,
     ⟨some 82, .val (.tmp 10), some (81, true)⟩,
     ⟨some 83, .call (.val (.fn (.func 21) [] [])) [(.tmp 82), (.val (.lit (.int .i64 4)))], some (81, true)⟩,
     ⟨some 84, .un .not (.tmp 83), some (81, true)⟩,
     ⟨some 85, .pick (.tmp 81) (.tmp 84) (.val (.lit (.bool false))), none⟩,
     ⟨some 86, .val (.tmp 85), none⟩,
     ⟨some 87, .val (.tmp 10), some (86, true)⟩,
     ⟨some 88, .call (.val (.fn (.func 22) [] [])) [(.tmp 87), (.val (.lit (.int .i64 4)))], some (86, true)⟩,
     ⟨some 89, .bin .eql .num (.tmp 88) (.val (.lit (.int .i64 (-1)))), some (86, true)⟩,
     ⟨some 90, .pick (.tmp 86) (.tmp 89) (.val (.lit (.bool false))), none⟩,
     ⟨some 91, .val (.tmp 90), none⟩,
     ⟨some 92, .val (.tmp 10), some (91, true)⟩,
     ⟨some 93, .call (.val (.fn (.func 22) [] [])) [(.tmp 92), (.val (.lit (.int .i64 0)))], some (91, true)⟩,
     ⟨some 94, .bin .eql .num (.tmp 93) (.val (.lit (.int .i64 (-1)))), some (91, true)⟩,
     ⟨some 95, .pick (.tmp 91) (.tmp 94) (.val (.lit (.bool false))), none⟩,
     ⟨some 96, .val (.tmp 95), none⟩,
     ⟨some 97, .val (.tmp 10), some (96, true)⟩,
     ⟨some 98, .call (.val (.fn (.func 26) [] [])) [(.tmp 97), (.val (.lit (.int .i64 4))), (.val (.lit (.int .i64 4)))], some (96, true)⟩,
     ⟨some 99, .un .not (.tmp 98), some (96, true)⟩,
     ⟨some 100, .pick (.tmp 96) (.tmp 99) (.val (.lit (.bool false))), none⟩,
     ⟨some 101, .val (.tmp 100), none⟩,
     ⟨some 102, .val (.tmp 10), some (101, true)⟩,
     ⟨some 103, .call (.val (.fn (.func 26) [] [])) [(.tmp 102), (.val (.lit (.int .i64 0))), (.val (.lit (.int .i64 0)))], some (101, true)⟩,
     ⟨some 104, .pick (.tmp 101) (.tmp 103) (.val (.lit (.bool false))), none⟩,
     ⟨some 105, .val (.tmp 104), none⟩,
     ⟨some 106, .val (.tmp 12), some (105, true)⟩,
     ⟨some 107, .call (.val (.fn (.func 21) [] [])) [(.tmp 106), (.val (.lit (.int .i64 0)))], some (105, true)⟩,
     ⟨some 108, .pick (.tmp 105) (.tmp 107) (.val (.lit (.bool false))), none⟩,
     ⟨some 109, .val (.tmp 108), none⟩,
     ⟨some 110, .val (.tmp 12), some (109, true)⟩,
     ⟨some 111, .call (.val (.fn (.func 19) [] [])) [(.tmp 110)], some (109, true)⟩,
     ⟨some 112, .bslice false 1 1 [(.lit (.int .i64 0))] [(0, 1, (.val (.lit (.int .i64 0))))], some (109, true)⟩,
     ⟨some 113, .call (.val (.fn (.func 18) [] [])) [(.tmp 111), (.tmp 112)], some (109, true)⟩,
     ⟨some 114, .pick (.tmp 109) (.tmp 113) (.val (.lit (.bool false))), none⟩,
     ⟨some 115, .val (.tmp 114), none⟩,
     ⟨some 116, .val (.tmp 1), some (115, true)⟩,
     ⟨some 117, .call (.val (.fn (.func 21) [] [])) [(.tmp 116), (.val (.lit (.int .i64 0)))], some (115, true)⟩,
     ⟨some 118, .un .not (.tmp 117), some (115, true)⟩,
     ⟨some 119, .pick (.tmp 115) (.tmp 118) (.val (.lit (.bool false))), none⟩,
     ⟨some 120, .val (.tmp 119), none⟩,
     ⟨some 121, .val (.tmp 1), some (120, true)⟩,
     ⟨some 122, .call (.val (.fn (.func 22) [] [])) [(.tmp 121), (.val (.lit (.int .i64 0)))], some (120, true)⟩,
     ⟨some 123, .bin .eql .num (.tmp 122) (.val (.lit (.int .i64 (-1)))), some (120, true)⟩,
     ⟨some 124, .pick (.tmp 120) (.tmp 123) (.val (.lit (.bool false))), none⟩,
     ⟨some 125, .val (.tmp 124), none⟩,
     ⟨some 126, .val (.tmp 1), some (125, true)⟩,
     ⟨some 127, .call (.val (.fn (.func 26) [] [])) [(.tmp 126), (.val (.lit (.int .i64 0))), (.val (.lit (.int .i64 0)))], some (125, true)⟩,
     ⟨some 128, .un .not (.tmp 127), some (125, true)⟩,
     ⟨some 129, .pick (.tmp 125) (.tmp 128) (.val (.lit (.bool false))), none⟩,
     ⟨some 130, .val (.tmp 129), none⟩,
     ⟨some 131, .val (.tmp 1), some (130, true)⟩,
     ⟨some 132, .call (.val (.fn (.func 24) [] [])) [(.tmp 131), (.val (.lit (.int .i64 0)))], some (130, true)⟩,
     ⟨some 133, .len 1 (.tmp 132), some (130, true)⟩,
     ⟨some 134, .bin .eql .num (.tmp 133) (.val (.lit (.int .i64 0))), some (130, true)⟩,
     ⟨some 135, .pick (.tmp 130) (.tmp 134) (.val (.lit (.bool false))), none⟩,
     ⟨some 136, .val (.tmp 135), none⟩,
     ⟨some 137, .val (.tmp 1), some (136, true)⟩,
     ⟨some 138, .call (.val (.fn (.func 19) [] [])) [(.tmp 137)], some (136, true)⟩,
     ⟨some 139, .len 1 (.tmp 138), some (136, true)⟩,
     ⟨some 140, .bin .eql .num (.tmp 139) (.val (.lit (.int .i64 0))), some (136, true)⟩,
     ⟨some 141, .pick (.tmp 136) (.tmp 140) (.val (.lit (.bool false))), none⟩,
     ⟨some 142, .val (.tmp 141), none⟩,
     ⟨some 143, .call (.val (.fn (.func 15) [] [])) [], some (142, true)⟩,
     ⟨some 144, .pick (.tmp 142) (.tmp 143) (.val (.lit (.bool false))), none⟩,
     ⟨some 0, .val (.tmp 144), none⟩]) (
  .ret)))))))))))

theorem c_bobbinlaw12_DomNames : codeOf Try.prog {  } 4 = some (a_bobbinlaw12_DomNames, [.tmp 0], 145) := by kernel_rfl

/-- bobbin/bobbinlaw12.DomTree -/
def a_bobbinlaw12_DomTreeb1 : ACode :=
               .seq (
                .seq (
                 .ops [⟨some 169, .val (.tmp 19), none⟩,
                   ⟨some 170, .val (.tmp 0), none⟩,
                   ⟨some 171, .len 1 (.tmp 170), none⟩,
                   ⟨some 172, .bin .lss .num (.tmp 169) (.tmp 171), none⟩]) (
                .cond (.tmp 172) (
                  .skip) (
                  .exit 10))) (
               .seq (
                .block 11 (
                  .seq (
                   .ops [⟨some 175, .val (.tmp 5), none⟩,
                     ⟨some 176, .val (.tmp 17), none⟩,
                     ⟨some 177, .call (.val (.fn (.func 21) [] [])) [(.tmp 175), (.tmp 176)], none⟩,
                     ⟨some 178, .un .not (.tmp 177), none⟩,
                     ⟨some 179, .val (.tmp 178), none⟩,
                     ⟨some 180, .val (.tmp 5), some (179, false)⟩,
                     ⟨some 181, .val (.tmp 19), some (179, false)⟩,
                     ⟨some 182, .val (.tmp 17), some (179, false)⟩,
                     ⟨some 183, .call (.val (.fn (.func 26) [] [])) [(.tmp 180), (.tmp 181), (.tmp 182)], some (179, false)⟩,
                     ⟨some 184, .val (.tmp 183), some (179, false)⟩,
                     ⟨some 185, .val (.tmp 16), some (184, true)⟩,
                     ⟨some 186, .val (.tmp 19), some (184, true)⟩,
                     ⟨some 187, .indexAddr 1 (.tmp 185) (.tmp 186), some (184, true)⟩,
                     ⟨some 188, .load false 1 (.tmp 187), some (184, true)⟩,
                     ⟨some 189, .un .not (.tmp 188), some (184, true)⟩,
                     ⟨some 190, .pick (.tmp 184) (.tmp 189) (.val (.lit (.bool false))), some (179, false)⟩,
                     ⟨some 191, .pick (.tmp 179) (.val (.lit (.bool true))) (.tmp 190), none⟩]) (
                  .cond (.tmp 191) (
                    .seq (
                     .ops [⟨some 4, .val (.val (.lit (.bool false))), none⟩]) (
                    .ret)) (
                    .skip)))) (
               .ops [⟨some 173, .val (.tmp 19), none⟩,
                 ⟨some 174, .bin .add .num (.tmp 173) (.val (.lit (.int .i64 1))), none⟩,
                 ⟨some 19, .val (.tmp 174), none⟩]))

def a_Tree_gone : ACode :=
           .seq (
            .ops [⟨some 19, .val (.val (.lit (.int .i64 0))), none⟩]) (
           .block 10 (
             .loop a_bobbinlaw12_DomTreeb1))

def a_bobbinlaw12_DomTreeb2 : ACode :=
       .seq (
        .seq (
         .ops [⟨some 160, .val (.tmp 18), none⟩,
           ⟨some 161, .val (.tmp 1), none⟩,
           ⟨some 162, .len 1 (.tmp 161), none⟩,
           ⟨some 163, .bin .leq .num (.tmp 160) (.tmp 162), none⟩]) (
        .cond (.tmp 163) (
          .skip) (
          .exit 8))) (
       .seq (
        .block 9 (
          .seq (
           .ops [⟨some 166, .val (.tmp 16), none⟩,
             ⟨some 167, .val (.tmp 17), none⟩,
             ⟨some 168, .indexAddr 1 (.tmp 166) (.tmp 167), none⟩,
             ⟨none, .store 1 (.tmp 168) (.val (.lit (.bool true))), none⟩]) (
          .seq a_Tree_gone (
          .seq (
           .seq (
            .ops [⟨some 192, .val (.tmp 18), none⟩,
              ⟨some 193, .val (.tmp 1), none⟩,
              ⟨some 194, .len 1 (.tmp 193), none⟩,
              ⟨some 195, .bin .eql .num (.tmp 192) (.tmp 194), none⟩,
              ⟨some 196, .val (.tmp 195), none⟩,
              ⟨some 197, .val (.tmp 0), some (196, false)⟩,
              ⟨some 198, .val (.tmp 17), some (196, false)⟩,
              ⟨some 199, .indexAddr 1 (.tmp 197) (.tmp 198), some (196, false)⟩,
              ⟨some 200, .load false 1 (.tmp 199), some (196, false)⟩,
              ⟨some 201, .len 1 (.tmp 200), some (196, false)⟩,
              ⟨some 202, .bin .eql .num (.tmp 201) (.val (.lit (.int .i64 0))), some (196, false)⟩,
              ⟨some 203, .pick (.tmp 196) (.val (.lit (.bool true))) (.tmp 202), none⟩]) (
           .cond (.tmp 203) (
             .exit 8) (
             .skip))) (
          .ops [⟨some 204, .val (.tmp 0), none⟩,
            ⟨some 205, .val (.tmp 17), none⟩,
            ⟨some 206, .indexAddr 1 (.tmp 204) (.tmp 205), none⟩,
            ⟨some 208, .val (.tmp 1), none⟩,
            ⟨some 209, .val (.tmp 18), none⟩,
            ⟨some 210, .indexAddr 1 (.tmp 208) (.tmp 209), none⟩,
            ⟨some 213, .val (.tmp 0), none⟩,
            ⟨some 214, .val (.tmp 17), none⟩,
            ⟨some 215, .indexAddr 1 (.tmp 213) (.tmp 214), none⟩,
            ⟨some 207, .load false 1 (.tmp 206), none⟩,
            ⟨some 211, .load false 1 (.tmp 210), none⟩,
            ⟨some 212, .conv .i64 (.tmp 211), none⟩,
            ⟨some 216, .load false 1 (.tmp 215), none⟩,
            ⟨some 217, .len 1 (.tmp 216), none⟩,
            ⟨some 218, .bin .rem .num (.tmp 212) (.tmp 217), none⟩,
            ⟨some 219, .indexAddr 1 (.tmp 207) (.tmp 218), none⟩,
            ⟨some 220, .load false 1 (.tmp 219), none⟩,
            ⟨some 17, .val (.tmp 220), none⟩]))))) (
       .ops [⟨some 164, .val (.tmp 18), none⟩,
         ⟨some 165, .bin .add .num (.tmp 164) (.val (.lit (.int .i64 1))), none⟩,
         ⟨some 18, .val (.tmp 165), none⟩]))

def a_bobbinlaw12_DomTreeb3 : ACode :=
       .seq (
        .seq (
         .ops [⟨some 95, .val (.tmp 15), none⟩,
           ⟨some 96, .val (.tmp 13), none⟩,
           ⟨some 97, .len 1 (.tmp 96), none⟩,
           ⟨some 98, .bin .lss .num (.tmp 95) (.tmp 97), none⟩]) (
        .cond (.tmp 98) (
          .skip) (
          .exit 6))) (
       .seq (
        .block 7 (
          .seq (
           .seq (
            .ops [⟨some 101, .val (.tmp 13), none⟩,
              ⟨some 102, .val (.tmp 15), none⟩,
              ⟨some 103, .indexAddr 1 (.tmp 101) (.tmp 102), none⟩,
              ⟨some 104, .load false 1 (.tmp 103), none⟩,
              ⟨some 105, .bin .lss .num (.tmp 104) (.val (.lit (.int .i64 0))), none⟩,
              ⟨some 106, .val (.tmp 105), none⟩,
              ⟨some 107, .val (.tmp 13), some (106, false)⟩,
              ⟨some 108, .val (.tmp 15), some (106, false)⟩,
              ⟨some 109, .indexAddr 1 (.tmp 107) (.tmp 108), some (106, false)⟩,
              ⟨some 110, .load false 1 (.tmp 109), some (106, false)⟩,
              ⟨some 111, .val (.tmp 0), some (106, false)⟩,
              ⟨some 112, .len 1 (.tmp 111), some (106, false)⟩,
              ⟨some 113, .bin .geq .num (.tmp 110) (.tmp 112), some (106, false)⟩,
              ⟨some 114, .pick (.tmp 106) (.val (.lit (.bool true))) (.tmp 113), none⟩,
              ⟨some 115, .val (.tmp 114), none⟩,
              ⟨some 116, .val (.tmp 14), some (115, false)⟩,
              ⟨some 117, .val (.tmp 13), some (115, false)⟩,
              ⟨some 118, .val (.tmp 15), some (115, false)⟩,
              ⟨some 119, .indexAddr 1 (.tmp 117) (.tmp 118), some (115, false)⟩,
              ⟨some 120, .load false 1 (.tmp 119), some (115, false)⟩,
              ⟨some 121, .indexAddr 1 (.tmp 116) (.tmp 120), some (115, false)⟩,
              ⟨some 122, .load false 1 (.tmp 121), some (115, false)⟩,
              ⟨some 123, .pick (.tmp 115) (.val (.lit (.bool true))) (.tmp 122), none⟩,
              ⟨some 124, .val (.tmp 123), none⟩,
              ⟨some 125, .val (.tmp 15), some (124, false)⟩,
              ⟨some 126, .bin .gtr .num (.tmp 125) (.val (.lit (.int .i64 0))), some (124, false)⟩,
              ⟨some 127, .val (.tmp 126), some (124, false)⟩,
              ⟨some 128, .val (.tmp 14), some (127, true)⟩,
              ⟨some 129, .val (.tmp 5), some (127, true)⟩,
              ⟨some 130, .val (.tmp 13), some (127, true)⟩,
              ⟨some 131, .val (.tmp 15), some (127, true)⟩,
              ⟨some 132, .indexAddr 1 (.tmp 130) (.tmp 131), some (127, true)⟩,
              ⟨some 133, .load false 1 (.tmp 132), some (127, true)⟩,
              ⟨some 134, .call (.val (.fn (.func 22) [] [])) [(.tmp 129), (.tmp 133)], some (127, true)⟩,
              ⟨some 135, .indexAddr 1 (.tmp 128) (.tmp 134), some (127, true)⟩,
              ⟨some 136, .load false 1 (.tmp 135), some (127, true)⟩,
              ⟨some 137, .un .not (.tmp 136), some (127, true)⟩,
              ⟨some 138, .pick (.tmp 127) (.tmp 137) (.val (.lit (.bool false))), some (124, false)⟩,
              ⟨some 139, .pick (.tmp 124) (.val (.lit (.bool true))) (.tmp 138), none⟩,
              ⟨some 140, .val (.tmp 139), none⟩,
              ⟨some 141, .val (.tmp 15), some (140, false)⟩,
              ⟨some 142, .bin .eql .num (.tmp 141) (.val (.lit (.int .i64 0))), some (140, false)⟩,
              ⟨some 143, .val (.tmp 142), some (140, false)⟩,
              ⟨some 144, .val (.tmp 13), some (143, true)⟩,
              ⟨some 145, .val (.tmp 15), some (143, true)⟩,
              ⟨some 146, .indexAddr 1 (.tmp 144) (.tmp 145), some (143, true)⟩,
              ⟨some 147, .load false 1 (.tmp 146), some (143, true)⟩,
              ⟨some 148, .bin .neq .num (.tmp 147) (.val (.lit (.int .i64 0))), some (143, true)⟩,
              ⟨some 149, .pick (.tmp 143) (.tmp 148) (.val (.lit (.bool false))), some (140, false)⟩,
              ⟨some 150, .pick (.tmp 140) (.val (.lit (.bool true))) (.tmp 149), none⟩]) (
           .cond (.tmp 150) (
             .seq (
              .ops [⟨some 4, .val (.val (.lit (.bool false))), none⟩]) (
             .ret)) (
             .skip))) (
          .ops [⟨some 151, .val (.tmp 14), none⟩,
            ⟨some 152, .val (.tmp 13), none⟩,
            ⟨some 153, .val (.tmp 15), none⟩,
            ⟨some 154, .indexAddr 1 (.tmp 152) (.tmp 153), none⟩,
            ⟨some 155, .load false 1 (.tmp 154), none⟩,
            ⟨some 156, .indexAddr 1 (.tmp 151) (.tmp 155), none⟩,
            ⟨none, .store 1 (.tmp 156) (.val (.lit (.bool true))), none⟩]))) (
       .ops [⟨some 99, .val (.tmp 15), none⟩,
         ⟨some 100, .bin .add .num (.tmp 99) (.val (.lit (.int .i64 1))), none⟩,
         ⟨some 15, .val (.tmp 100), none⟩]))

def a_bobbinlaw12_DomTreeb4 : ACode :=
              .seq (
               .seq (
                .ops [⟨some 75, .val (.tmp 12), none⟩,
                  ⟨some 76, .val (.tmp 0), none⟩,
                  ⟨some 77, .len 1 (.tmp 76), none⟩,
                  ⟨some 78, .bin .lss .num (.tmp 75) (.tmp 77), none⟩]) (
               .cond (.tmp 78) (
                 .skip) (
                 .exit 4))) (
              .seq (
               .block 5 (
                 .seq (
                  .ops [⟨some 81, .val (.tmp 5), none⟩,
                    ⟨some 82, .val (.tmp 12), none⟩,
                    ⟨some 83, .val (.tmp 8), none⟩,
                    ⟨some 84, .pcall (.val (.fn (.func 26) [] [])) [(.tmp 81), (.tmp 82), (.tmp 83)], none⟩,
                    ⟨some 85, .val (.tmp 9), none⟩,
                    ⟨some 86, .val (.tmp 12), none⟩,
                    ⟨some 87, .indexAddr 1 (.tmp 85) (.tmp 86), none⟩,
                    ⟨some 88, .load false 1 (.tmp 87), none⟩,
                    ⟨some 89, .bin .neq .bool (.tmp 84) (.tmp 88), none⟩]) (
                 .cond (.tmp 89) (
                   .seq (
                    .ops [⟨some 4, .val (.val (.lit (.bool false))), none⟩]) (
                   .ret)) (
                   .skip)))) (
              .ops [⟨some 79, .val (.tmp 12), none⟩,
                ⟨some 80, .bin .add .num (.tmp 79) (.val (.lit (.int .i64 1))), none⟩,
                ⟨some 12, .val (.tmp 80), none⟩]))

def a_bobbinlaw12_DomTreeb5 : ACode :=
               .seq (
                .seq (
                 .ops [⟨some 55, .val (.tmp 11), none⟩,
                   ⟨some 56, .val (.tmp 0), none⟩,
                   ⟨some 57, .len 1 (.tmp 56), none⟩,
                   ⟨some 58, .bin .leq .num (.tmp 55) (.tmp 57), none⟩,
                   ⟨some 59, .val (.tmp 58), none⟩,
                   ⟨some 60, .val (.tmp 10), some (59, true)⟩,
                   ⟨some 61, .bin .gtr .num (.tmp 60) (.val (.lit (.int .i64 0))), some (59, true)⟩,
                   ⟨some 62, .pick (.tmp 59) (.tmp 61) (.val (.lit (.bool false))), none⟩]) (
                .cond (.tmp 62) (
                  .skip) (
                  .exit 2))) (
               .seq (
                .block 3 (
                  .seq (
                   .ops [⟨some 65, .val (.tmp 9), none⟩,
                     ⟨some 66, .val (.tmp 10), none⟩,
                     ⟨some 67, .indexAddr 1 (.tmp 65) (.tmp 66), none⟩,
                     ⟨none, .store 1 (.tmp 67) (.val (.lit (.bool true))), none⟩]) (
                  .ops [⟨some 68, .val (.tmp 5), none⟩,
                    ⟨some 69, .val (.tmp 10), none⟩,
                    ⟨some 70, .call (.val (.fn (.func 22) [] [])) [(.tmp 68), (.tmp 69)], none⟩,
                    ⟨some 10, .val (.tmp 70), none⟩]))) (
               .ops [⟨some 63, .val (.tmp 11), none⟩,
                 ⟨some 64, .bin .add .num (.tmp 63) (.val (.lit (.int .i64 1))), none⟩,
                 ⟨some 11, .val (.tmp 64), none⟩]))

def a_Tree_up : ACode :=
           .seq (
            .ops [⟨some 11, .val (.val (.lit (.int .i64 0))), none⟩]) (
           .block 2 (
             .loop a_bobbinlaw12_DomTreeb5))

def a_Tree_is : ACode :=
          .seq (
           .ops [⟨some 12, .val (.val (.lit (.int .i64 0))), none⟩]) (
          .block 4 (
            .loop a_bobbinlaw12_DomTreeb4))

def a_bobbinlaw12_DomTreeb6 : ACode :=
       .seq (
        .seq (
         .ops [⟨some 39, .val (.tmp 8), none⟩,
           ⟨some 40, .val (.tmp 0), none⟩,
           ⟨some 41, .len 1 (.tmp 40), none⟩,
           ⟨some 42, .bin .lss .num (.tmp 39) (.tmp 41), none⟩]) (
        .cond (.tmp 42) (
          .skip) (
          .exit 0))) (
       .seq (
        .block 1 (
          .seq (
           .seq (
            .ops [⟨some 45, .val (.tmp 5), none⟩,
              ⟨some 46, .val (.tmp 8), none⟩,
              ⟨some 47, .call (.val (.fn (.func 21) [] [])) [(.tmp 45), (.tmp 46)], none⟩,
              ⟨some 48, .un .not (.tmp 47), none⟩]) (
           .cond (.tmp 48) (
             .exit 1) (
             .skip))) (
          .seq (
           .ops [⟨some 49, .val (.tmp 7), none⟩,
             ⟨some 50, .bin .add .num (.tmp 49) (.val (.lit (.int .i64 1))), none⟩,
             ⟨some 7, .val (.tmp 50), none⟩]) (
          .seq (
           .ops [⟨some 51, .val (.tmp 0), none⟩,
             ⟨some 52, .len 1 (.tmp 51), none⟩,
             ⟨some 53, .mkslice 1 1 [(.lit (.bool false))] (.tmp 52) (.tmp 52), none⟩,
             ⟨some 9, .val (.tmp 53), none⟩]) (
          .seq (
           .ops [⟨some 54, .val (.tmp 8), none⟩,
             ⟨some 10, .val (.tmp 54), none⟩]) (
          .seq a_Tree_up (
          .seq (
           .seq (
            .ops [⟨some 71, .val (.tmp 10), none⟩,
              ⟨some 72, .bin .neq .num (.tmp 71) (.val (.lit (.int .i64 0))), none⟩]) (
           .cond (.tmp 72) (
             .seq (
              .ops [⟨some 4, .val (.val (.lit (.bool false))), none⟩]) (
             .ret)) (
             .skip))) (
          .seq (
           .ops [⟨some 73, .val (.tmp 9), none⟩,
             ⟨some 74, .indexAddr 1 (.tmp 73) (.val (.lit (.int .i64 0))), none⟩,
             ⟨none, .store 1 (.tmp 74) (.val (.lit (.bool true))), none⟩]) a_Tree_is)))))))) (
       .ops [⟨some 43, .val (.tmp 8), none⟩,
         ⟨some 44, .bin .add .num (.tmp 43) (.val (.lit (.int .i64 1))), none⟩,
         ⟨some 8, .val (.tmp 44), none⟩]))

def a_Tree_all : ACode :=
   .seq (
    .ops [⟨some 8, .val (.val (.lit (.int .i64 0))), none⟩]) (
   .block 0 (
     .loop a_bobbinlaw12_DomTreeb6))

def a_Tree_seen : ACode :=
   .seq (
    .ops [⟨some 15, .val (.val (.lit (.int .i64 0))), none⟩]) (
   .block 6 (
     .loop a_bobbinlaw12_DomTreeb3))

def a_Tree_way : ACode :=
   .seq (
    .ops [⟨some 18, .val (.val (.lit (.int .i64 0))), none⟩]) (
   .block 8 (
     .loop a_bobbinlaw12_DomTreeb2))

def a_bobbinlaw12_DomTree : ACode :=
  .seq (
   .ops [⟨some 4, .val (.val (.lit (.bool false))), none⟩]) (
  .seq (
   .seq (
    .ops [⟨some 20, .val (.tmp 0), none⟩,
      ⟨some 21, .call (.val (.fn (.func 14) [] [])) [(.tmp 20)], none⟩,
      ⟨some 22, .val (.tmp 21), none⟩,
      ⟨some 23, .val (.tmp 1), some (22, false)⟩,
      ⟨some 24, .len 1 (.tmp 23), some (22, false)⟩,
      ⟨some 25, .bin .gtr .num (.tmp 24) (.val (.lit (.int .i64 200))), some (22, false)⟩,
      ⟨some 26, .pick (.tmp 22) (.val (.lit (.bool true))) (.tmp 25), none⟩,
      ⟨some 27, .val (.tmp 26), none⟩,
      ⟨some 28, .call (.val (.fn (.func 15) [] [])) [], some (27, false)⟩,
      ⟨some 29, .un .not (.tmp 28), some (27, false)⟩,
      ⟨some 30, .pick (.tmp 27) (.val (.lit (.bool true))) (.tmp 29), none⟩]) (
   .cond (.tmp 30) (
     .seq (
      .ops [⟨some 31, .call (.val (.fn (.func 15) [] [])) [], none⟩,
        ⟨some 4, .val (.tmp 31), none⟩]) (
     .ret)) (
     .skip))) (
  .seq (
   .ops [⟨some 33, .val (.tmp 0), none⟩,
     ⟨some 34, .call (.val (.fn (.func 16) [] [])) [(.tmp 33)], none⟩,
     ⟨some 32, .val (.tmp 34), none⟩,
     ⟨some 35, .extract (.tmp 32) 0, none⟩,
     ⟨some 36, .extract (.tmp 32) 1, none⟩,
     ⟨some 5, .val (.tmp 35), none⟩,
     ⟨some 6, .val (.tmp 36), none⟩]) (
  .seq (
   .seq (
    .ops [⟨some 37, .val (.tmp 6), none⟩,
      ⟨some 38, .bin .neq .num (.tmp 37) (.val (.lit (.int .i64 0))), none⟩]) (
   .cond (.tmp 38) (
     .seq (
      .ops [⟨some 4, .val (.val (.lit (.bool true))), none⟩]) (
     .ret)) (
     .skip))) (
  .seq (
   .ops [⟨some 7, .val (.val (.lit (.int .i64 0))), none⟩]) (
  .seq a_Tree_all (
  .seq (
   .ops [⟨some 90, .val (.tmp 5), none⟩,
     ⟨some 91, .call (.val (.fn (.func 19) [] [])) [(.tmp 90)], none⟩,
     ⟨some 13, .val (.tmp 91), none⟩]) (
  .seq (
   .ops [⟨some 92, .val (.tmp 0), none⟩,
     ⟨some 93, .len 1 (.tmp 92), none⟩,
     ⟨some 94, .mkslice 1 1 [(.lit (.bool false))] (.tmp 93) (.tmp 93), none⟩,
     ⟨some 14, .val (.tmp 94), none⟩]) (
  .seq a_Tree_seen (
  .seq (
   .ops [⟨some 157, .val (.tmp 0), none⟩,
     ⟨some 158, .len 1 (.tmp 157), none⟩,
     ⟨some 159, .mkslice 1 1 [(.lit (.bool false))] (.tmp 158) (.tmp 158), none⟩,
     ⟨some 16, .val (.tmp 159), none⟩]) (
  .seq (
   .ops [⟨some 17, .val (.val (.lit (.int .i64 0))), none⟩]) (
  .seq a_Tree_way (
  .seq (
   .ops [⟨some 221, .val (.tmp 13), none⟩,
     ⟨some 222, .len 1 (.tmp 221), none⟩,
     ⟨some 223, .val (.tmp 7), none⟩,
     ⟨some 224, .bin .eql .num (.tmp 222) (.tmp 223), none⟩,
     ⟨some 4, .val (.tmp 224), none⟩]) (
  .ret)))))))))))))

theorem c_bobbinlaw12_DomTree : codeOf Try.prog { pc := [84] } 5 = some (a_bobbinlaw12_DomTree, [.tmp 4], 225) := by kernel_rfl

/-- bobbin/bobbinlaw12.DomFewer -/
def a_bobbinlaw12_DomFewerb1 : ACode :=
              .seq (
               .seq (
                .ops [⟨some 109, .val (.tmp 14), none⟩,
                  ⟨some 110, .val (.tmp 0), none⟩,
                  ⟨some 111, .len 1 (.tmp 110), none⟩,
                  ⟨some 112, .bin .lss .num (.tmp 109) (.tmp 111), none⟩]) (
               .cond (.tmp 112) (
                 .skip) (
                 .exit 4))) (
              .seq (
               .block 5 (
                 .seq (
                  .ops [⟨some 115, .val (.tmp 12), none⟩,
                    ⟨some 116, .val (.tmp 13), none⟩,
                    ⟨some 117, .call (.val (.fn (.func 21) [] [])) [(.tmp 115), (.tmp 116)], none⟩,
                    ⟨some 118, .val (.tmp 117), none⟩,
                    ⟨some 119, .val (.tmp 7), some (118, true)⟩,
                    ⟨some 120, .val (.tmp 14), some (118, true)⟩,
                    ⟨some 121, .val (.tmp 13), some (118, true)⟩,
                    ⟨some 122, .call (.val (.fn (.func 26) [] [])) [(.tmp 119), (.tmp 120), (.tmp 121)], some (118, true)⟩,
                    ⟨some 123, .pick (.tmp 118) (.tmp 122) (.val (.lit (.bool false))), none⟩,
                    ⟨some 124, .val (.tmp 123), none⟩,
                    ⟨some 125, .val (.tmp 12), some (124, true)⟩,
                    ⟨some 126, .val (.tmp 14), some (124, true)⟩,
                    ⟨some 127, .val (.tmp 13), some (124, true)⟩,
                    ⟨some 128, .call (.val (.fn (.func 26) [] [])) [(.tmp 125), (.tmp 126), (.tmp 127)], some (124, true)⟩,
                    ⟨some 129, .un .not (.tmp 128), some (124, true)⟩,
                    ⟨some 130, .pick (.tmp 124) (.tmp 129) (.val (.lit (.bool false))), none⟩]) (
                 .cond (.tmp 130) (
                   .seq (
                    .ops [⟨some 6, .val (.val (.lit (.bool false))), none⟩]) (
                   .ret)) (
                   .skip)))) (
              .ops [⟨some 113, .val (.tmp 14), none⟩,
                ⟨some 114, .bin .add .num (.tmp 113) (.val (.lit (.int .i64 1))), none⟩,
                ⟨some 14, .val (.tmp 114), none⟩]))

def a_bobbinlaw12_DomFewerb2 : ACode :=
       .seq (
        .seq (
         .ops [⟨some 94, .val (.tmp 13), none⟩,
           ⟨some 95, .val (.tmp 0), none⟩,
           ⟨some 96, .len 1 (.tmp 95), none⟩,
           ⟨some 97, .bin .lss .num (.tmp 94) (.tmp 96), none⟩]) (
        .cond (.tmp 97) (
          .skip) (
          .exit 2))) (
       .seq (
        .block 3 (
          .seq (
           .seq (
            .ops [⟨some 100, .val (.tmp 12), none⟩,
              ⟨some 101, .val (.tmp 13), none⟩,
              ⟨some 102, .call (.val (.fn (.func 21) [] [])) [(.tmp 100), (.tmp 101)], none⟩,
              ⟨some 103, .val (.tmp 102), none⟩,
              ⟨some 104, .val (.tmp 7), some (103, true)⟩,
              ⟨some 105, .val (.tmp 13), some (103, true)⟩,
              ⟨some 106, .call (.val (.fn (.func 21) [] [])) [(.tmp 104), (.tmp 105)], some (103, true)⟩,
              ⟨some 107, .un .not (.tmp 106), some (103, true)⟩,
              ⟨some 108, .pick (.tmp 103) (.tmp 107) (.val (.lit (.bool false))), none⟩]) (
           .cond (.tmp 108) (
             .seq (
              .ops [⟨some 6, .val (.val (.lit (.bool false))), none⟩]) (
             .ret)) (
             .skip))) (
          .seq (
           .ops [⟨some 14, .val (.val (.lit (.int .i64 0))), none⟩]) (
          .block 4 (
            .loop a_bobbinlaw12_DomFewerb1))))) (
       .ops [⟨some 98, .val (.tmp 13), none⟩,
         ⟨some 99, .bin .add .num (.tmp 98) (.val (.lit (.int .i64 1))), none⟩,
         ⟨some 13, .val (.tmp 99), none⟩]))

def a_bobbinlaw12_DomFewerb3 : ACode :=
       .seq (
        .seq (
         .ops [⟨some 52, .val (.tmp 10), none⟩,
           ⟨some 53, .val (.tmp 0), none⟩,
           ⟨some 54, .len 1 (.tmp 53), none⟩,
           ⟨some 55, .bin .lss .num (.tmp 52) (.tmp 54), none⟩]) (
        .cond (.tmp 55) (
          .skip) (
          .exit 0))) (
       .seq (
        .block 1 (
          .seq (
           .ops [⟨some 58, .bslice false 1 0 [] [], none⟩,
             ⟨some 59, .val (.tmp 0), none⟩,
             ⟨some 60, .val (.tmp 10), none⟩,
             ⟨some 61, .indexAddr 1 (.tmp 59) (.tmp 60), none⟩,
             ⟨some 62, .load false 1 (.tmp 61), none⟩,
             ⟨some 63, .append false 1 8 (.tmp 58) (.tmp 62), none⟩,
             ⟨some 11, .val (.tmp 63), none⟩]) (
          .seq (
           .seq (
            .ops [⟨some 64, .val (.tmp 10), none⟩,
              ⟨some 65, .val (.tmp 1), none⟩,
              ⟨some 66, .bin .eql .num (.tmp 64) (.tmp 65), none⟩]) (
           .cond (.tmp 66) (
             .ops [⟨some 67, .bslice false 1 0 [] [], none⟩,
               ⟨some 68, .val (.tmp 0), none⟩,
               ⟨some 69, .val (.tmp 10), none⟩,
               ⟨some 70, .indexAddr 1 (.tmp 68) (.tmp 69), none⟩,
               ⟨some 71, .iload false 1 (.tmp 70), none⟩,
               ⟨some 72, .val (.tmp 2), none⟩,
               ⟨some 73, .slice 1 (.tmp 71) none (some (.tmp 72)) none, none⟩,
               ⟨some 75, .val (.tmp 0), none⟩,
               ⟨some 76, .val (.tmp 10), none⟩,
               ⟨some 77, .indexAddr 1 (.tmp 75) (.tmp 76), none⟩,
               ⟨some 78, .iload false 1 (.tmp 77), none⟩,
               ⟨some 79, .val (.tmp 2), none⟩,
               ⟨some 80, .bin .add .num (.tmp 79) (.val (.lit (.int .i64 1))), none⟩,
               ⟨some 81, .slice 1 (.tmp 78) (some (.tmp 80)) none none, none⟩,
               ⟨some 74, .append false 1 8 (.tmp 67) (.tmp 73), none⟩,
               ⟨some 82, .append false 1 8 (.tmp 74) (.tmp 81), none⟩,
               ⟨some 11, .val (.tmp 82), none⟩]) (
             .skip))) (
          .ops [⟨some 83, .val (.tmp 9), none⟩,
            ⟨some 84, .val (.tmp 11), none⟩,
            ⟨some 85, .bslice false 1 1 [(.sl .nil 0 [])] [(0, 1, (.tmp 84))], none⟩,
            ⟨some 86, .append false 1 24 (.tmp 83) (.tmp 85), none⟩,
            ⟨some 9, .val (.tmp 86), none⟩])))) (
       .ops [⟨some 56, .val (.tmp 10), none⟩,
         ⟨some 57, .bin .add .num (.tmp 56) (.val (.lit (.int .i64 1))), none⟩,
         ⟨some 10, .val (.tmp 57), none⟩]))

def a_bobbinlaw12_DomFewer : ACode :=
  .seq (
   .ops [⟨some 6, .val (.val (.lit (.bool false))), none⟩]) (
  .seq (
   .seq (
    .ops [⟨some 15, .val (.tmp 0), none⟩,
      ⟨some 16, .call (.val (.fn (.func 14) [] [])) [(.tmp 15)], none⟩,
      ⟨some 17, .val (.tmp 16), none⟩,
      ⟨some 18, .call (.val (.fn (.func 15) [] [])) [], some (17, false)⟩,
      ⟨some 19, .un .not (.tmp 18), some (17, false)⟩,
      ⟨some 20, .pick (.tmp 17) (.val (.lit (.bool true))) (.tmp 19), none⟩]) (
   .cond (.tmp 20) (
     .seq (
      .ops [⟨some 21, .call (.val (.fn (.func 15) [] [])) [], none⟩,
        ⟨some 6, .val (.tmp 21), none⟩]) (
     .ret)) (
     .skip))) (
  .seq (
   .ops [⟨some 23, .val (.tmp 0), none⟩,
     ⟨some 24, .call (.val (.fn (.func 16) [] [])) [(.tmp 23)], none⟩,
     ⟨some 22, .val (.tmp 24), none⟩,
     ⟨some 25, .extract (.tmp 22) 0, none⟩,
     ⟨some 26, .extract (.tmp 22) 1, none⟩,
     ⟨some 7, .val (.tmp 25), none⟩,
     ⟨some 8, .val (.tmp 26), none⟩]) (
  .seq (
   .seq (
    .ops [⟨some 27, .val (.tmp 8), none⟩,
      ⟨some 28, .bin .neq .num (.tmp 27) (.val (.lit (.int .i64 0))), none⟩,
      ⟨some 29, .val (.tmp 28), none⟩,
      ⟨some 30, .val (.tmp 1), some (29, false)⟩,
      ⟨some 31, .bin .lss .num (.tmp 30) (.val (.lit (.int .i64 0))), some (29, false)⟩,
      ⟨some 32, .pick (.tmp 29) (.val (.lit (.bool true))) (.tmp 31), none⟩,
      ⟨some 33, .val (.tmp 32), none⟩,
      ⟨some 34, .val (.tmp 1), some (33, false)⟩,
      ⟨some 35, .val (.tmp 0), some (33, false)⟩,
      ⟨some 36, .len 1 (.tmp 35), some (33, false)⟩,
      ⟨some 37, .bin .geq .num (.tmp 34) (.tmp 36), some (33, false)⟩,
      ⟨some 38, .pick (.tmp 33) (.val (.lit (.bool true))) (.tmp 37), none⟩,
      ⟨some 39, .val (.tmp 38), none⟩,
      ⟨some 40, .val (.tmp 2), some (39, false)⟩,
      ⟨some 41, .bin .lss .num (.tmp 40) (.val (.lit (.int .i64 0))), some (39, false)⟩,
      ⟨some 42, .pick (.tmp 39) (.val (.lit (.bool true))) (.tmp 41), none⟩,
      ⟨some 43, .val (.tmp 42), none⟩,
      ⟨some 44, .val (.tmp 2), some (43, false)⟩,
      ⟨some 45, .val (.tmp 0), some (43, false)⟩,
      ⟨some 46, .val (.tmp 1), some (43, false)⟩,
      ⟨some 47, .indexAddr 1 (.tmp 45) (.tmp 46), some (43, false)⟩,
      ⟨some 48, .load false 1 (.tmp 47), some (43, false)⟩,
      ⟨some 49, .len 1 (.tmp 48), some (43, false)⟩,
      ⟨some 50, .bin .geq .num (.tmp 44) (.tmp 49), some (43, false)⟩,
      ⟨some 51, .pick (.tmp 43) (.val (.lit (.bool true))) (.tmp 50), none⟩]) (
   .cond (.tmp 51) (
     .seq (
      .ops [⟨some 6, .val (.val (.lit (.bool true))), none⟩]) (
     .ret)) (
     .skip))) (
  .seq (
   .ops [⟨some 9, .val (.val (.sl .nil 0 [])), none⟩]) (
  .seq (
   .seq (
    .ops [⟨some 10, .val (.val (.lit (.int .i64 0))), none⟩]) (
   .block 0 (
     .loop a_bobbinlaw12_DomFewerb3))) (
  .seq (
   .ops [⟨some 88, .val (.tmp 9), none⟩,
     ⟨some 89, .call (.val (.fn (.func 16) [] [])) [(.tmp 88)], none⟩,
     ⟨some 87, .val (.tmp 89), none⟩,
     ⟨some 90, .extract (.tmp 87) 0, none⟩,
     ⟨some 91, .extract (.tmp 87) 1, none⟩,
     ⟨some 12, .val (.tmp 90), none⟩,
     ⟨some 8, .val (.tmp 91), none⟩]) (
  .seq (
   .seq (
    .ops [⟨some 92, .val (.tmp 8), none⟩,
      ⟨some 93, .bin .neq .num (.tmp 92) (.val (.lit (.int .i64 0))), none⟩]) (
   .cond (.tmp 93) (
     .seq (
      .ops [⟨some 6, .val (.val (.lit (.bool false))), none⟩]) (
     .ret)) (
     .skip))) (
  .seq (
   .seq (
    .ops [⟨some 13, .val (.val (.lit (.int .i64 0))), none⟩]) (
   .block 2 (
     .loop a_bobbinlaw12_DomFewerb2))) (
  .seq (
   .ops [⟨some 6, .val (.val (.lit (.bool true))), none⟩]) (
  .ret))))))))))

theorem c_bobbinlaw12_DomFewer : codeOf Try.prog { il := [71, 78] } 6 = some (a_bobbinlaw12_DomFewer, [.tmp 6], 131) := by kernel_rfl

/-- bobbin/bobbinlaw12.DomKids -/
def a_bobbinlaw12_DomKidsb1 : ACode :=
               .seq (
                .seq (
                 .ops [⟨some 40, .val (.tmp 9), none⟩,
                   ⟨some 41, .val (.tmp 8), none⟩,
                   ⟨some 42, .len 1 (.tmp 41), none⟩,
                   ⟨some 43, .bin .lss .num (.tmp 40) (.tmp 42), none⟩]) (
                .cond (.tmp 43) (
                  .skip) (
                  .exit 2))) (
               .seq (
                .block 3 (
                  .seq (
                   .ops [⟨some 46, .val (.tmp 3), none⟩,
                     ⟨some 47, .val (.tmp 8), none⟩,
                     ⟨some 48, .val (.tmp 9), none⟩,
                     ⟨some 49, .indexAddr 1 (.tmp 47) (.tmp 48), none⟩,
                     ⟨some 52, .val (.tmp 7), none⟩,
                     ⟨some 50, .load false 1 (.tmp 49), none⟩,
                     ⟨some 51, .call (.val (.fn (.func 22) [] [])) [(.tmp 46), (.tmp 50)], none⟩,
                     ⟨some 53, .bin .neq .num (.tmp 51) (.tmp 52), none⟩,
                     ⟨some 54, .val (.tmp 53), none⟩,
                     ⟨some 55, .val (.tmp 3), some (54, false)⟩,
                     ⟨some 56, .val (.tmp 8), some (54, false)⟩,
                     ⟨some 57, .val (.tmp 9), some (54, false)⟩,
                     ⟨some 58, .indexAddr 1 (.tmp 56) (.tmp 57), some (54, false)⟩,
                     ⟨some 59, .load false 1 (.tmp 58), some (54, false)⟩,
                     ⟨some 60, .call (.val (.fn (.func 21) [] [])) [(.tmp 55), (.tmp 59)], some (54, false)⟩,
                     ⟨some 61, .un .not (.tmp 60), some (54, false)⟩,
                     ⟨some 62, .pick (.tmp 54) (.val (.lit (.bool true))) (.tmp 61), none⟩,
                     ⟨some 63, .val (.tmp 62), none⟩,
                     ⟨some 64, .val (.tmp 3), some (63, false)⟩,
                     ⟨some 65, .val (.tmp 7), some (63, false)⟩,
                     ⟨some 66, .call (.val (.fn (.func 21) [] [])) [(.tmp 64), (.tmp 65)], some (63, false)⟩,
                     ⟨some 67, .un .not (.tmp 66), some (63, false)⟩,
                     ⟨some 68, .pick (.tmp 63) (.val (.lit (.bool true))) (.tmp 67), none⟩,
                     ⟨some 69, .val (.tmp 68), none⟩,
                     ⟨some 70, .val (.tmp 9), some (69, false)⟩,
                     ⟨some 71, .bin .gtr .num (.tmp 70) (.val (.lit (.int .i64 0))), some (69, false)⟩,
                     ⟨some 72, .val (.tmp 71), some (69, false)⟩,
                     ⟨some 73, .val (.tmp 8), some (72, true)⟩,
                     ⟨some 74, .val (.tmp 9), some (72, true)⟩,
                     ⟨some 75, .indexAddr 1 (.tmp 73) (.tmp 74), some (72, true)⟩,
                     ⟨some 77, .val (.tmp 8), some (72, true)⟩,
                     ⟨some 78, .val (.tmp 9), some (72, true)⟩,
                     ⟨some 79, .bin .sub .num (.tmp 78) (.val (.lit (.int .i64 1))), some (72, true)⟩,
                     ⟨some 80, .indexAddr 1 (.tmp 77) (.tmp 79), some (72, true)⟩,
                     ⟨some 76, .load false 1 (.tmp 75), some (72, true)⟩,
                     ⟨some 81, .load false 1 (.tmp 80), some (72, true)⟩,
                     ⟨some 82, .bin .leq .num (.tmp 76) (.tmp 81), some (72, true)⟩,
                     ⟨some 83, .pick (.tmp 72) (.tmp 82) (.val (.lit (.bool false))), some (69, false)⟩,
                     ⟨some 84, .pick (.tmp 69) (.val (.lit (.bool true))) (.tmp 83), none⟩]) (
                  .cond (.tmp 84) (
                    .seq (
                     .ops [⟨some 2, .val (.val (.lit (.bool false))), none⟩]) (
                    .ret)) (
                    .skip)))) (
               .ops [⟨some 44, .val (.tmp 9), none⟩,
                 ⟨some 45, .bin .add .num (.tmp 44) (.val (.lit (.int .i64 1))), none⟩,
                 ⟨some 9, .val (.tmp 45), none⟩]))

def a_DomKids_in : ACode :=
           .seq (
            .ops [⟨some 9, .val (.val (.lit (.int .i64 0))), none⟩]) (
           .block 2 (
             .loop a_bobbinlaw12_DomKidsb1))

def a_bobbinlaw12_DomKidsb2 : ACode :=
       .seq (
        .seq (
         .ops [⟨some 26, .val (.tmp 7), none⟩,
           ⟨some 27, .val (.tmp 0), none⟩,
           ⟨some 28, .len 1 (.tmp 27), none⟩,
           ⟨some 29, .bin .lss .num (.tmp 26) (.tmp 28), none⟩]) (
        .cond (.tmp 29) (
          .skip) (
          .exit 0))) (
       .seq (
        .block 1 (
          .seq (
           .seq (
            .ops [⟨some 32, .val (.tmp 3), none⟩,
              ⟨some 33, .val (.tmp 7), none⟩,
              ⟨some 34, .call (.val (.fn (.func 21) [] [])) [(.tmp 32), (.tmp 33)], none⟩]) (
           .cond (.tmp 34) (
             .ops [⟨some 35, .val (.tmp 6), none⟩,
               ⟨some 36, .bin .add .num (.tmp 35) (.val (.lit (.int .i64 1))), none⟩,
               ⟨some 6, .val (.tmp 36), none⟩]) (
             .skip))) (
          .seq (
           .ops [⟨some 37, .val (.tmp 3), none⟩,
             ⟨some 38, .val (.tmp 7), none⟩,
             ⟨some 39, .call (.val (.fn (.func 24) [] [])) [(.tmp 37), (.tmp 38)], none⟩,
             ⟨some 8, .val (.tmp 39), none⟩]) (
          .seq a_DomKids_in (
          .ops [⟨some 85, .val (.tmp 5), none⟩,
            ⟨some 86, .val (.tmp 8), none⟩,
            ⟨some 87, .len 1 (.tmp 86), none⟩,
            ⟨some 88, .bin .add .num (.tmp 85) (.tmp 87), none⟩,
            ⟨some 5, .val (.tmp 88), none⟩]))))) (
       .ops [⟨some 30, .val (.tmp 7), none⟩,
         ⟨some 31, .bin .add .num (.tmp 30) (.val (.lit (.int .i64 1))), none⟩,
         ⟨some 7, .val (.tmp 31), none⟩]))

def a_bobbinlaw12_DomKids : ACode :=
  .seq (
   .ops [⟨some 2, .val (.val (.lit (.bool false))), none⟩]) (
  .seq (
   .seq (
    .ops [⟨some 10, .val (.tmp 0), none⟩,
      ⟨some 11, .call (.val (.fn (.func 14) [] [])) [(.tmp 10)], none⟩,
      ⟨some 12, .val (.tmp 11), none⟩,
      ⟨some 13, .call (.val (.fn (.func 15) [] [])) [], some (12, false)⟩,
      ⟨some 14, .un .not (.tmp 13), some (12, false)⟩,
      ⟨some 15, .pick (.tmp 12) (.val (.lit (.bool true))) (.tmp 14), none⟩]) (
   .cond (.tmp 15) (
     .seq (
      .ops [⟨some 16, .call (.val (.fn (.func 15) [] [])) [], none⟩,
        ⟨some 2, .val (.tmp 16), none⟩]) (
     .ret)) (
     .skip))) (
  .seq (
   .ops [⟨some 18, .val (.tmp 0), none⟩,
     ⟨some 19, .call (.val (.fn (.func 16) [] [])) [(.tmp 18)], none⟩,
     ⟨some 17, .val (.tmp 19), none⟩,
     ⟨some 20, .extract (.tmp 17) 0, none⟩,
     ⟨some 21, .extract (.tmp 17) 1, none⟩,
     ⟨some 3, .val (.tmp 20), none⟩,
     ⟨some 4, .val (.tmp 21), none⟩]) (
  .seq (
   .seq (
    .ops [⟨some 22, .val (.tmp 4), none⟩,
      ⟨some 23, .bin .neq .num (.tmp 22) (.val (.lit (.int .i64 0))), none⟩]) (
   .cond (.tmp 23) (
     .seq (
      .ops [⟨some 24, .val (.tmp 3), none⟩,
        ⟨some 25, .bin .eql .ptr (.tmp 24) (.val (.lit (.pointer none))), none⟩,
        ⟨some 2, .val (.tmp 25), none⟩]) (
     .ret)) (
     .skip))) (
  .seq (
   .ops [⟨some 5, .val (.val (.lit (.int .i64 0))), none⟩,
     ⟨some 6, .val (.val (.lit (.int .i64 0))), none⟩]) (
  .seq (
   .seq (
    .ops [⟨some 7, .val (.val (.lit (.int .i64 0))), none⟩]) (
   .block 0 (
     .loop a_bobbinlaw12_DomKidsb2))) (
  .seq (
   .ops [⟨some 89, .val (.tmp 5), none⟩,
     ⟨some 90, .val (.tmp 6), none⟩,
     ⟨some 91, .bin .sub .num (.tmp 90) (.val (.lit (.int .i64 1))), none⟩,
     ⟨some 92, .bin .eql .num (.tmp 89) (.tmp 91), none⟩,
     ⟨some 93, .val (.tmp 92), none⟩,
     ⟨some 94, .val (.tmp 3), some (93, true)⟩,
     ⟨some 95, .call (.val (.fn (.func 22) [] [])) [(.tmp 94), (.val (.lit (.int .i64 0)))], some (93, true)⟩,
     ⟨some 96, .bin .eql .num (.tmp 95) (.val (.lit (.int .i64 (-1)))), some (93, true)⟩,
     ⟨some 97, .pick (.tmp 93) (.tmp 96) (.val (.lit (.bool false))), none⟩,
     ⟨some 98, .val (.tmp 97), none⟩,
     ⟨some 99, .val (.tmp 3), some (98, true)⟩,
     ⟨some 100, .call (.val (.fn (.func 21) [] [])) [(.tmp 99), (.val (.lit (.int .i64 0)))], some (98, true)⟩,
     ⟨some 101, .pick (.tmp 98) (.tmp 100) (.val (.lit (.bool false))), none⟩,
     ⟨some 2, .val (.tmp 101), none⟩]) (
  .ret)))))))

theorem c_bobbinlaw12_DomKids : codeOf Try.prog {  } 7 = some (a_bobbinlaw12_DomKids, [.tmp 2], 102) := by kernel_rfl

/-- bobbin/bobbinlaw12.DomAbove -/
def a_bobbinlaw12_DomAbove : ACode :=
  .seq (
   .ops [⟨some 8, .val (.val (.lit (.bool false))), none⟩]) (
  .seq (
   .seq (
    .ops [⟨some 11, .val (.tmp 0), none⟩,
      ⟨some 12, .call (.val (.fn (.func 14) [] [])) [(.tmp 11)], none⟩,
      ⟨some 13, .val (.tmp 12), none⟩,
      ⟨some 14, .call (.val (.fn (.func 15) [] [])) [], some (13, false)⟩,
      ⟨some 15, .un .not (.tmp 14), some (13, false)⟩,
      ⟨some 16, .pick (.tmp 13) (.val (.lit (.bool true))) (.tmp 15), none⟩]) (
   .cond (.tmp 16) (
     .seq (
      .ops [⟨some 17, .call (.val (.fn (.func 15) [] [])) [], none⟩,
        ⟨some 8, .val (.tmp 17), none⟩]) (
     .ret)) (
     .skip))) (
  .seq (
   .ops [⟨some 19, .val (.tmp 0), none⟩,
     ⟨some 20, .call (.val (.fn (.func 16) [] [])) [(.tmp 19)], none⟩,
     ⟨some 18, .val (.tmp 20), none⟩,
     ⟨some 21, .extract (.tmp 18) 0, none⟩,
     ⟨some 22, .extract (.tmp 18) 1, none⟩,
     ⟨some 9, .val (.tmp 21), none⟩,
     ⟨some 10, .val (.tmp 22), none⟩]) (
  .seq (
   .seq (
    .ops [⟨some 23, .val (.tmp 10), none⟩,
      ⟨some 24, .bin .neq .num (.tmp 23) (.val (.lit (.int .i64 0))), none⟩]) (
   .cond (.tmp 24) (
     .seq (
      .ops [⟨some 25, .val (.tmp 9), none⟩,
        ⟨some 26, .bin .eql .ptr (.tmp 25) (.val (.lit (.pointer none))), none⟩,
        ⟨some 8, .val (.tmp 26), none⟩]) (
     .ret)) (
     .skip))) (
  .seq (
   .seq (
    .ops [⟨some 27, .val (.tmp 9), none⟩,
      ⟨some 28, .val (.tmp 1), none⟩,
      ⟨some 29, .call (.val (.fn (.func 21) [] [])) [(.tmp 27), (.tmp 28)], none⟩,
      ⟨some 30, .val (.tmp 9), none⟩,
      ⟨some 31, .val (.tmp 1), none⟩,
      ⟨some 32, .val (.tmp 1), none⟩,
      ⟨some 33, .call (.val (.fn (.func 26) [] [])) [(.tmp 30), (.tmp 31), (.tmp 32)], none⟩,
      ⟨some 34, .bin .neq .bool (.tmp 29) (.tmp 33), none⟩,
      ⟨some 35, .val (.tmp 34), none⟩,
      ⟨some 36, .val (.tmp 9), some (35, false)⟩,
      ⟨some 37, .val (.tmp 1), some (35, false)⟩,
      ⟨some 38, .call (.val (.fn (.func 21) [] [])) [(.tmp 36), (.tmp 37)], some (35, false)⟩,
      ⟨some 39, .val (.tmp 9), some (35, false)⟩,
      ⟨some 40, .val (.tmp 1), some (35, false)⟩,
      ⟨some 41, .call (.val (.fn (.func 26) [] [])) [(.tmp 39), (.val (.lit (.int .i64 0))), (.tmp 40)], some (35, false)⟩,
      ⟨some 42, .bin .neq .bool (.tmp 38) (.tmp 41), some (35, false)⟩,
      ⟨some 43, .pick (.tmp 35) (.val (.lit (.bool true))) (.tmp 42), none⟩,
      ⟨some 44, .val (.tmp 43), none⟩,
      ⟨some 45, .val (.tmp 9), some (44, false)⟩,
      ⟨some 46, .val (.tmp 1), some (44, false)⟩,
      ⟨some 47, .val (.tmp 2), some (44, false)⟩,
      ⟨some 48, .call (.val (.fn (.func 26) [] [])) [(.tmp 45), (.tmp 46), (.tmp 47)], some (44, false)⟩,
      ⟨some 49, .val (.tmp 48), some (44, false)⟩,
      ⟨some 50, .val (.tmp 9), some (49, true)⟩,
      ⟨some 51, .val (.tmp 1), some (49, true)⟩,
      ⟨some 52, .call (.val (.fn (.func 21) [] [])) [(.tmp 50), (.tmp 51)], some (49, true)⟩,
      ⟨some 53, .un .not (.tmp 52), some (49, true)⟩,
      ⟨some 54, .val (.tmp 53), some (49, true)⟩,
      ⟨some 55, .val (.tmp 9), some (54, false)⟩,
      ⟨some 56, .val (.tmp 2), some (54, false)⟩,
      ⟨some 57, .call (.val (.fn (.func 21) [] [])) [(.tmp 55), (.tmp 56)], some (54, false)⟩,
      ⟨some 58, .un .not (.tmp 57), some (54, false)⟩,
      ⟨some 59, .pick (.tmp 54) (.val (.lit (.bool true))) (.tmp 58), some (49, true)⟩,
      ⟨some 60, .pick (.tmp 49) (.tmp 59) (.val (.lit (.bool false))), some (44, false)⟩,
      ⟨some 61, .pick (.tmp 44) (.val (.lit (.bool true))) (.tmp 60), none⟩]) (
   .cond (.tmp 61) (
     .seq (
      .ops [⟨some 8, .val (.val (.lit (.bool false))), none⟩]) (
     .ret)) (
     .skip))) (
  .seq (
   .seq (
    .ops [⟨some 62, .val (.tmp 1), none⟩,
      ⟨some 63, .val (.tmp 2), none⟩,
      ⟨some 64, .bin .neq .num (.tmp 62) (.tmp 63), none⟩,
      ⟨some 65, .val (.tmp 64), none⟩,
      ⟨some 66, .val (.tmp 9), some (65, true)⟩,
      ⟨some 67, .val (.tmp 1), some (65, true)⟩,
      ⟨some 68, .val (.tmp 2), some (65, true)⟩,
      ⟨some 69, .call (.val (.fn (.func 26) [] [])) [(.tmp 66), (.tmp 67), (.tmp 68)], some (65, true)⟩,
      ⟨some 70, .pick (.tmp 65) (.tmp 69) (.val (.lit (.bool false))), none⟩,
      ⟨some 71, .val (.tmp 70), none⟩,
      ⟨some 72, .val (.tmp 9), some (71, true)⟩,
      ⟨some 73, .val (.tmp 2), some (71, true)⟩,
      ⟨some 74, .val (.tmp 1), some (71, true)⟩,
      ⟨some 75, .call (.val (.fn (.func 26) [] [])) [(.tmp 72), (.tmp 73), (.tmp 74)], some (71, true)⟩,
      ⟨some 76, .pick (.tmp 71) (.tmp 75) (.val (.lit (.bool false))), none⟩,
      ⟨some 77, .val (.tmp 76), none⟩,
      ⟨some 78, .val (.tmp 9), some (77, false)⟩,
      ⟨some 79, .val (.tmp 1), some (77, false)⟩,
      ⟨some 80, .val (.tmp 2), some (77, false)⟩,
      ⟨some 81, .call (.val (.fn (.func 26) [] [])) [(.tmp 78), (.tmp 79), (.tmp 80)], some (77, false)⟩,
      ⟨some 82, .val (.tmp 81), some (77, false)⟩,
      ⟨some 83, .val (.tmp 9), some (82, true)⟩,
      ⟨some 84, .val (.tmp 2), some (82, true)⟩,
      ⟨some 85, .val (.tmp 3), some (82, true)⟩,
      ⟨some 86, .call (.val (.fn (.func 26) [] [])) [(.tmp 83), (.tmp 84), (.tmp 85)], some (82, true)⟩,
      ⟨some 87, .pick (.tmp 82) (.tmp 86) (.val (.lit (.bool false))), some (77, false)⟩,
      ⟨some 88, .val (.tmp 87), some (77, false)⟩,
      ⟨some 89, .val (.tmp 9), some (88, true)⟩,
      ⟨some 90, .val (.tmp 1), some (88, true)⟩,
      ⟨some 91, .val (.tmp 3), some (88, true)⟩,
      ⟨some 92, .call (.val (.fn (.func 26) [] [])) [(.tmp 89), (.tmp 90), (.tmp 91)], some (88, true)⟩,
      ⟨some 93, .un .not (.tmp 92), some (88, true)⟩,
      ⟨some 94, .pick (.tmp 88) (.tmp 93) (.val (.lit (.bool false))), some (77, false)⟩,
      ⟨some 95, .pick (.tmp 77) (.val (.lit (.bool true))) (.tmp 94), none⟩]) (
   .cond (.tmp 95) (
     .seq (
      .ops [⟨some 8, .val (.val (.lit (.bool false))), none⟩]) (
     .ret)) (
     .skip))) (
  .seq (
   .ops [⟨some 96, .val (.tmp 9), none⟩,
     ⟨some 97, .val (.tmp 1), none⟩,
     ⟨some 98, .val (.tmp 3), none⟩,
     ⟨some 99, .call (.val (.fn (.func 26) [] [])) [(.tmp 96), (.tmp 97), (.tmp 98)], none⟩,
     ⟨some 100, .un .not (.tmp 99), none⟩,
     ⟨some 101, .val (.tmp 100), none⟩,
     ⟨some 102, .val (.tmp 9), some (101, false)⟩,
     ⟨some 103, .val (.tmp 2), some (101, false)⟩,
     ⟨some 104, .val (.tmp 3), some (101, false)⟩,
     ⟨some 105, .call (.val (.fn (.func 26) [] [])) [(.tmp 102), (.tmp 103), (.tmp 104)], some (101, false)⟩,
     ⟨some 106, .un .not (.tmp 105), some (101, false)⟩,
     ⟨some 107, .pick (.tmp 101) (.val (.lit (.bool true))) (.tmp 106), none⟩,
     ⟨some 108, .val (.tmp 107), none⟩,
     ⟨some 109, .val (.tmp 9), some (108, false)⟩,
     ⟨some 110, .val (.tmp 1), some (108, false)⟩,
     ⟨some 111, .val (.tmp 2), some (108, false)⟩,
     ⟨some 112, .call (.val (.fn (.func 26) [] [])) [(.tmp 109), (.tmp 110), (.tmp 111)], some (108, false)⟩,
     ⟨some 113, .pick (.tmp 108) (.val (.lit (.bool true))) (.tmp 112), none⟩,
     ⟨some 114, .val (.tmp 113), none⟩,
     ⟨some 115, .val (.tmp 9), some (114, false)⟩,
     ⟨some 116, .val (.tmp 2), some (114, false)⟩,
     ⟨some 117, .val (.tmp 1), some (114, false)⟩,
     ⟨some 118, .call (.val (.fn (.func 26) [] [])) [(.tmp 115), (.tmp 116), (.tmp 117)], some (114, false)⟩,
     ⟨some 119, .pick (.tmp 114) (.val (.lit (.bool true))) (.tmp 118), none⟩,
     ⟨some 8, .val (.tmp 119), none⟩]) (
  .ret)))))))

theorem c_bobbinlaw12_DomAbove : codeOf Try.prog {  } 8 = some (a_bobbinlaw12_DomAbove, [.tmp 8], 120) := by kernel_rfl

end Go.Proofs.Ytmbbklddjkmcmaa
