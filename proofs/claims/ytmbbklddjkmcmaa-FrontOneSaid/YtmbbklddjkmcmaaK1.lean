/- The code of functions, compiled (printed by wip/tools/kp.py). -/
import Derived.Test.YtmbbklddjkmcmaaProg
import Derived.Test.YtmbbklddjkmcmaaM3
namespace Go.Proofs.Ytmbbklddjkmcmaa
set_option linter.unusedSimpArgs false
set_option linter.unusedVariables false
open Go Go.Fw
/-- bobbin/dom.may -/
def a_dom_may : ACode :=
  .seq (
   .ops [⟨some 1, .box true (.tmp 0), none⟩,
     ⟨some 2, .val (.val (.lit (.bool false))), none⟩]) (
  .seq (
   .ops [⟨some 4, .mkfn (.func 52) [] [(.tmp 1)], none⟩,
     ⟨some 3, .alloc [(.lit .nilFunc)], none⟩,
     ⟨none, .store 1 (.tmp 3) (.tmp 4), none⟩]) (
  .seq (
   .ops [⟨some 5, .iload false 1 (.tmp 1), none⟩,
     ⟨some 6, .len 1 (.tmp 5), none⟩,
     ⟨some 7, .bin .geq .num (.tmp 6) (.val (.lit (.int .i64 1))), none⟩,
     ⟨some 8, .val (.tmp 7), none⟩,
     ⟨some 9, .iload false 1 (.tmp 1), some (8, true)⟩,
     ⟨some 10, .len 1 (.tmp 9), some (8, true)⟩,
     ⟨some 11, .bin .leq .num (.tmp 10) (.val (.lit (.int .i64 32768))), some (8, true)⟩,
     ⟨some 12, .pick (.tmp 8) (.tmp 11) (.val (.lit (.bool false))), none⟩,
     ⟨some 13, .val (.tmp 12), none⟩,
     ⟨some 14, .iload false 1 (.tmp 1), some (13, true)⟩,
     ⟨some 15, .mkfn (.func 54) [] [(.tmp 3)], some (13, true)⟩,
     ⟨some 16, .call (.val (.fn (.func 53) [] [])) [(.tmp 14), (.tmp 15)], some (13, true)⟩,
     ⟨some 17, .un .not (.tmp 16), some (13, true)⟩,
     ⟨some 18, .pick (.tmp 13) (.tmp 17) (.val (.lit (.bool false))), none⟩,
     ⟨some 2, .val (.tmp 18), none⟩]) (
  .ret)))

theorem c_dom_may : codeOf Try.prog { bz := [1], il := [5, 9, 14] } 37 = some (a_dom_may, [.tmp 2], 19) := by kernel_rfl

/-- bobbin/dom.may$1 -/
def a_dom_may_1 : ACode :=
  .seq (
   .ops [⟨some 3, .val (.val (.lit (.bool false))), none⟩]) (
  .seq (
   .ops [⟨some 4, .val (.tmp 0), none⟩,
     ⟨some 5, .bin .lss .num (.tmp 4) (.val (.lit (.int .i64 0))), none⟩,
     ⟨some 6, .val (.tmp 5), none⟩,
     ⟨some 7, .val (.tmp 0), some (6, false)⟩,
     ⟨some 8, .load false 1 (.tmp 1), some (6, false)⟩,
     ⟨some 9, .len 1 (.tmp 8), some (6, false)⟩,
     ⟨some 10, .bin .geq .num (.tmp 7) (.tmp 9), some (6, false)⟩,
     ⟨some 11, .pick (.tmp 6) (.val (.lit (.bool true))) (.tmp 10), none⟩,
     ⟨some 3, .val (.tmp 11), none⟩]) (
  .ret))

theorem c_dom_may_1 : codeOf Try.prog {  } 52 = some (a_dom_may_1, [.tmp 3], 12) := by kernel_rfl

/-- bobbin/dom.may$2 -/
def a_dom_may_2 : ACode :=
  .seq (
   .ops [⟨some 3, .val (.val (.lit (.bool false))), none⟩]) (
  .seq (
   .ops [⟨some 4, .val (.tmp 0), none⟩,
     ⟨some 5, .load false 1 (.tmp 1), none⟩,
     ⟨some 6, .call (.val (.fn (.func 55) [] [])) [(.tmp 4), (.tmp 5)], none⟩,
     ⟨some 3, .val (.tmp 6), none⟩]) (
  .ret))

theorem c_dom_may_2 : codeOf Try.prog {  } 54 = some (a_dom_may_2, [.tmp 3], 7) := by kernel_rfl

/-- slices.ContainsFunc[[][]int,[]int] -/
def a_slices_ContainsFunc_SSint_Sint : ACode :=
  .seq (
   .ops [⟨some 4, .val (.val (.lit (.bool false))), none⟩]) (
  .seq (
   .ops [⟨some 5, .val (.tmp 0), none⟩,
     ⟨some 6, .val (.tmp 1), none⟩,
     ⟨some 7, .call (.val (.fn (.func 63) [] [])) [(.tmp 5), (.tmp 6)], none⟩,
     ⟨some 8, .bin .geq .num (.tmp 7) (.val (.lit (.int .i64 0))), none⟩,
     ⟨some 4, .val (.tmp 8), none⟩]) (
  .ret))

theorem c_slices_ContainsFunc_SSint_Sint : codeOf Try.prog {  } 53 = some (a_slices_ContainsFunc_SSint_Sint, [.tmp 4], 9) := by kernel_rfl

/-- slices.ContainsFunc[[]int,int] -/
def a_slices_ContainsFunc_Sint_int : ACode :=
  .seq (
   .ops [⟨some 4, .val (.val (.lit (.bool false))), none⟩]) (
  .seq (
   .ops [⟨some 5, .val (.tmp 0), none⟩,
     ⟨some 6, .val (.tmp 1), none⟩,
     ⟨some 7, .call (.val (.fn (.func 64) [] [])) [(.tmp 5), (.tmp 6)], none⟩,
     ⟨some 8, .bin .geq .num (.tmp 7) (.val (.lit (.int .i64 0))), none⟩,
     ⟨some 4, .val (.tmp 8), none⟩]) (
  .ret))

theorem c_slices_ContainsFunc_Sint_int : codeOf Try.prog {  } 55 = some (a_slices_ContainsFunc_Sint_int, [.tmp 4], 9) := by kernel_rfl

/-- slices.IndexFunc[[][]int,[]int] -/
def a_slices_IndexFunc_SSint_Sintb1 : ACode :=
       .seq (
        .ops [⟨some 9, .bin .lss .num (.tmp 8) (.tmp 7), none⟩]) (
       .seq (
        .cond (.tmp 9) (
          .skip) (
          .exit 0)) (
       .seq (
        .block 1 (
          .seq (
           .ops [⟨some 10, .val (.tmp 8), none⟩,
             ⟨some 5, .val (.tmp 10), none⟩]) (
          .seq (
           .ops [⟨some 11, .val (.tmp 1), none⟩,
             ⟨some 12, .val (.tmp 0), none⟩,
             ⟨some 13, .val (.tmp 5), none⟩,
             ⟨some 14, .indexAddr 1 (.tmp 12) (.tmp 13), none⟩,
             ⟨some 15, .load false 1 (.tmp 14), none⟩,
             ⟨some 16, .call (.tmp 11) [(.tmp 15)], none⟩]) (
          .cond (.tmp 16) (
            .seq (
             .ops [⟨some 17, .val (.tmp 5), none⟩,
               ⟨some 4, .val (.tmp 17), none⟩]) (
            .ret)) (
            .skip))))) (
       .ops [⟨some 18, .bin .add .num (.tmp 8) (.val (.lit (.int .i64 1))), none⟩,
         ⟨some 8, .val (.tmp 18), none⟩])))

def a_slices_IndexFunc_SSint_Sint : ACode :=
  .seq (
   .ops [⟨some 4, .val (.val (.lit (.int .i64 0))), none⟩]) (
  .seq (
   .seq (
    .ops [⟨some 6, .val (.tmp 0), none⟩,
      ⟨some 7, .len 1 (.tmp 6), none⟩,
      ⟨some 8, .val (.val (.lit (.int .i64 0))), none⟩]) (
   .block 0 (
     .loop a_slices_IndexFunc_SSint_Sintb1))) (
  .seq (
   .ops [⟨some 4, .val (.val (.lit (.int .i64 (-1)))), none⟩]) (
  .ret)))

theorem c_slices_IndexFunc_SSint_Sint : codeOf Try.prog {  } 63 = some (a_slices_IndexFunc_SSint_Sint, [.tmp 4], 19) := by kernel_rfl

/-- slices.IndexFunc[[]int,int] -/
def a_slices_IndexFunc_Sint_intb1 : ACode :=
       .seq (
        .ops [⟨some 9, .bin .lss .num (.tmp 8) (.tmp 7), none⟩]) (
       .seq (
        .cond (.tmp 9) (
          .skip) (
          .exit 0)) (
       .seq (
        .block 1 (
          .seq (
           .ops [⟨some 10, .val (.tmp 8), none⟩,
             ⟨some 5, .val (.tmp 10), none⟩]) (
          .seq (
           .ops [⟨some 11, .val (.tmp 1), none⟩,
             ⟨some 12, .val (.tmp 0), none⟩,
             ⟨some 13, .val (.tmp 5), none⟩,
             ⟨some 14, .indexAddr 1 (.tmp 12) (.tmp 13), none⟩,
             ⟨some 15, .load false 1 (.tmp 14), none⟩,
             ⟨some 16, .call (.tmp 11) [(.tmp 15)], none⟩]) (
          .cond (.tmp 16) (
            .seq (
             .ops [⟨some 17, .val (.tmp 5), none⟩,
               ⟨some 4, .val (.tmp 17), none⟩]) (
            .ret)) (
            .skip))))) (
       .ops [⟨some 18, .bin .add .num (.tmp 8) (.val (.lit (.int .i64 1))), none⟩,
         ⟨some 8, .val (.tmp 18), none⟩])))

def a_slices_IndexFunc_Sint_int : ACode :=
  .seq (
   .ops [⟨some 4, .val (.val (.lit (.int .i64 0))), none⟩]) (
  .seq (
   .seq (
    .ops [⟨some 6, .val (.tmp 0), none⟩,
      ⟨some 7, .len 1 (.tmp 6), none⟩,
      ⟨some 8, .val (.val (.lit (.int .i64 0))), none⟩]) (
   .block 0 (
     .loop a_slices_IndexFunc_Sint_intb1))) (
  .seq (
   .ops [⟨some 4, .val (.val (.lit (.int .i64 (-1)))), none⟩]) (
  .ret)))

theorem c_slices_IndexFunc_Sint_int : codeOf Try.prog {  } 64 = some (a_slices_IndexFunc_Sint_int, [.tmp 4], 19) := by kernel_rfl

/-- bobbin/dom.row -/
def a_dom_row : ACode :=
  .seq (
   .ops [⟨some 1, .box true (.tmp 0), none⟩,
     ⟨some 2, .val (.val (.sl .nil 0 [])), none⟩]) (
  .seq (
   .ops [⟨some 6, .iload false 1 (.tmp 1), none⟩,
     ⟨some 7, .len 1 (.tmp 6), none⟩,
     ⟨some 8, .mkslice 1 1 [(.lit (.bool false))] (.tmp 7) (.tmp 7), none⟩,
     ⟨some 3, .alloc [(.sl .nil 0 [])], none⟩,
     ⟨none, .store 1 (.tmp 3) (.tmp 8), none⟩]) (
  .seq (
   .ops [⟨some 4, .alloc [(.sl .nil 0 [])], none⟩]) (
  .seq (
   .ops [⟨some 5, .alloc [(.lit .nilFunc)], none⟩]) (
  .seq (
   .ops [⟨some 9, .mkfn (.func 57) [] [(.tmp 3), (.tmp 1), (.tmp 5), (.tmp 4)], none⟩,
     ⟨none, .store 1 (.tmp 5) (.tmp 9), none⟩]) (
  .seq (
   .ops [⟨some 10, .load false 1 (.tmp 5), none⟩,
     ⟨some 11, .call (.tmp 10) [(.val (.lit (.int .i64 0)))], none⟩]) (
  .seq (
   .ops [⟨some 12, .load false 1 (.tmp 4), none⟩,
     ⟨some 13, .call (.val (.fn (.func 58) [] [])) [(.tmp 12)], none⟩]) (
  .seq (
   .ops [⟨some 14, .load false 1 (.tmp 4), none⟩,
     ⟨some 2, .val (.tmp 14), none⟩]) (
  .ret))))))))

theorem c_dom_row : codeOf Try.prog { bz := [1], il := [6] } 39 = some (a_dom_row, [.tmp 2], 15) := by kernel_rfl

/-- bobbin/dom.row$1 -/
def a_dom_row_1b1 : ACode :=
       .seq (
        .ops [⟨some 17, .bin .lss .num (.tmp 16) (.tmp 15), none⟩]) (
       .seq (
        .cond (.tmp 17) (
          .skip) (
          .exit 0)) (
       .seq (
        .block 1 (
          .seq (
           .ops [⟨some 18, .indexAddr 1 (.tmp 14) (.tmp 16), none⟩,
             ⟨some 19, .load false 1 (.tmp 18), none⟩,
             ⟨some 7, .val (.tmp 19), none⟩]) (
          .seq (
           .ops [⟨some 20, .load false 1 (.tmp 1), none⟩,
             ⟨some 21, .val (.tmp 7), none⟩,
             ⟨some 22, .indexAddr 1 (.tmp 20) (.tmp 21), none⟩,
             ⟨some 23, .load false 1 (.tmp 22), none⟩,
             ⟨some 24, .un .not (.tmp 23), none⟩]) (
          .cond (.tmp 24) (
            .ops [⟨some 25, .load false 1 (.tmp 3), none⟩,
              ⟨some 26, .val (.tmp 7), none⟩,
              ⟨some 27, .call (.tmp 25) [(.tmp 26)], none⟩]) (
            .skip))))) (
       .ops [⟨some 28, .bin .add .num (.tmp 16) (.val (.lit (.int .i64 1))), none⟩,
         ⟨some 16, .val (.tmp 28), none⟩])))

def a_dom_row_1 : ACode :=
  .seq (
   .ops [⟨some 8, .load false 1 (.tmp 1), none⟩,
     ⟨some 9, .val (.tmp 0), none⟩,
     ⟨some 10, .indexAddr 1 (.tmp 8) (.tmp 9), none⟩,
     ⟨none, .store 1 (.tmp 10) (.val (.lit (.bool true))), none⟩]) (
  .seq (
   .seq (
    .ops [⟨some 11, .load false 1 (.tmp 2), none⟩,
      ⟨some 12, .val (.tmp 0), none⟩,
      ⟨some 13, .indexAddr 1 (.tmp 11) (.tmp 12), none⟩,
      ⟨some 14, .load false 1 (.tmp 13), none⟩,
      ⟨some 15, .len 1 (.tmp 14), none⟩,
      ⟨some 16, .val (.val (.lit (.int .i64 0))), none⟩]) (
   .block 0 (
     .loop a_dom_row_1b1))) (
  .ops [⟨some 29, .load false 1 (.tmp 4), none⟩,
    ⟨some 30, .val (.tmp 0), none⟩,
    ⟨some 31, .bslice false 1 1 [(.lit (.int .i64 0))] [(0, 1, (.tmp 30))], none⟩,
    ⟨some 32, .append false 1 8 (.tmp 29) (.tmp 31), none⟩,
    ⟨none, .store 1 (.tmp 4) (.tmp 32), none⟩]))

theorem c_dom_row_1 : codeOf Try.prog {  } 57 = some (a_dom_row_1, [], 33) := by kernel_rfl

/-- slices.Reverse[[]int,int] -/
def a_slices_Reverse_int_intb1 : ACode :=
      .seq (
       .seq (
        .ops [⟨some 7, .val (.tmp 2), none⟩,
          ⟨some 8, .val (.tmp 3), none⟩,
          ⟨some 9, .bin .lss .num (.tmp 7) (.tmp 8), none⟩]) (
       .cond (.tmp 9) (
         .skip) (
         .exit 0))) (
      .seq (
       .block 1 (
         .ops [⟨some 14, .val (.tmp 0), none⟩,
           ⟨some 15, .val (.tmp 2), none⟩,
           ⟨some 16, .val (.tmp 0), none⟩,
           ⟨some 17, .val (.tmp 3), none⟩,
           ⟨some 18, .val (.tmp 0), none⟩,
           ⟨some 19, .val (.tmp 3), none⟩,
           ⟨some 20, .indexAddr 1 (.tmp 18) (.tmp 19), none⟩,
           ⟨some 22, .val (.tmp 0), none⟩,
           ⟨some 23, .val (.tmp 2), none⟩,
           ⟨some 24, .indexAddr 1 (.tmp 22) (.tmp 23), none⟩,
           ⟨some 21, .load false 1 (.tmp 20), none⟩,
           ⟨some 25, .load false 1 (.tmp 24), none⟩,
           ⟨some 26, .indexAddr 1 (.tmp 14) (.tmp 15), none⟩,
           ⟨none, .store 1 (.tmp 26) (.tmp 21), none⟩,
           ⟨some 27, .indexAddr 1 (.tmp 16) (.tmp 17), none⟩,
           ⟨none, .store 1 (.tmp 27) (.tmp 25), none⟩])) (
      .ops [⟨some 10, .val (.tmp 2), none⟩,
        ⟨some 11, .bin .add .num (.tmp 10) (.val (.lit (.int .i64 1))), none⟩,
        ⟨some 12, .val (.tmp 3), none⟩,
        ⟨some 13, .bin .sub .num (.tmp 12) (.val (.lit (.int .i64 1))), none⟩,
        ⟨some 2, .val (.tmp 11), none⟩,
        ⟨some 3, .val (.tmp 13), none⟩]))

def a_slices_Reverse_int_int : ACode :=
  .seq (
   .ops [⟨some 4, .val (.tmp 0), none⟩,
     ⟨some 5, .len 1 (.tmp 4), none⟩,
     ⟨some 6, .bin .sub .num (.tmp 5) (.val (.lit (.int .i64 1))), none⟩,
     ⟨some 2, .val (.val (.lit (.int .i64 0))), none⟩,
     ⟨some 3, .val (.tmp 6), none⟩]) (
  .block 0 (
    .loop a_slices_Reverse_int_intb1))

theorem c_slices_Reverse_int_int : codeOf Try.prog {  } 58 = some (a_slices_Reverse_int_int, [], 28) := by kernel_rfl

/-- bobbin/dom.from -/
def a_dom_fromb1 : ACode :=
              .seq (
               .ops [⟨some 21, .bin .lss .num (.tmp 20) (.tmp 19), none⟩]) (
              .seq (
               .cond (.tmp 21) (
                 .skip) (
                 .exit 2)) (
              .seq (
               .block 3 (
                 .seq (
                  .ops [⟨some 22, .indexAddr 1 (.tmp 18) (.tmp 20), none⟩,
                    ⟨some 23, .load false 1 (.tmp 22), none⟩,
                    ⟨some 7, .val (.tmp 23), none⟩]) (
                 .ops [⟨some 24, .val (.tmp 3), none⟩,
                   ⟨some 25, .val (.tmp 7), none⟩,
                   ⟨some 26, .val (.tmp 3), none⟩,
                   ⟨some 27, .val (.tmp 7), none⟩,
                   ⟨some 28, .indexAddr 1 (.tmp 26) (.tmp 27), none⟩,
                   ⟨some 29, .load false 1 (.tmp 28), none⟩,
                   ⟨some 30, .val (.tmp 4), none⟩,
                   ⟨some 31, .bslice false 1 1 [(.lit (.int .i64 0))] [(0, 1, (.tmp 30))], none⟩,
                   ⟨some 32, .append false 1 8 (.tmp 29) (.tmp 31), none⟩,
                   ⟨some 33, .indexAddr 1 (.tmp 24) (.tmp 25), none⟩,
                   ⟨none, .store 1 (.tmp 33) (.tmp 32), none⟩]))) (
              .ops [⟨some 34, .bin .add .num (.tmp 20) (.val (.lit (.int .i64 1))), none⟩,
                ⟨some 20, .val (.tmp 34), none⟩])))

def a_dom_fromb2 : ACode :=
       .seq (
        .ops [⟨some 14, .bin .lss .num (.tmp 13) (.tmp 12), none⟩]) (
       .seq (
        .cond (.tmp 14) (
          .skip) (
          .exit 0)) (
       .seq (
        .block 1 (
          .seq (
           .ops [⟨some 15, .val (.tmp 13), none⟩,
             ⟨some 16, .indexAddr 1 (.tmp 11) (.tmp 13), none⟩,
             ⟨some 17, .load false 1 (.tmp 16), none⟩,
             ⟨some 4, .val (.tmp 15), none⟩,
             ⟨some 5, .val (.tmp 17), none⟩]) (
          .seq (
           .ops [⟨some 18, .val (.tmp 5), none⟩,
             ⟨some 19, .len 1 (.tmp 18), none⟩,
             ⟨some 20, .val (.val (.lit (.int .i64 0))), none⟩]) (
          .block 2 (
            .loop a_dom_fromb1))))) (
       .ops [⟨some 35, .bin .add .num (.tmp 13) (.val (.lit (.int .i64 1))), none⟩,
         ⟨some 13, .val (.tmp 35), none⟩])))

def a_dom_from : ACode :=
  .seq (
   .ops [⟨some 2, .val (.val (.sl .nil 0 [])), none⟩]) (
  .seq (
   .ops [⟨some 8, .val (.tmp 0), none⟩,
     ⟨some 9, .len 1 (.tmp 8), none⟩,
     ⟨some 10, .mkslice 1 24 [(.sl .nil 0 [])] (.tmp 9) (.tmp 9), none⟩,
     ⟨some 3, .val (.tmp 10), none⟩]) (
  .seq (
   .seq (
    .ops [⟨some 11, .val (.tmp 0), none⟩,
      ⟨some 12, .len 1 (.tmp 11), none⟩,
      ⟨some 13, .val (.val (.lit (.int .i64 0))), none⟩]) (
   .block 0 (
     .loop a_dom_fromb2))) (
  .seq (
   .ops [⟨some 36, .val (.tmp 3), none⟩,
     ⟨some 2, .val (.tmp 36), none⟩]) (
  .ret))))

theorem c_dom_from : codeOf Try.prog {  } 40 = some (a_dom_from, [.tmp 2], 37) := by kernel_rfl

/-- (*bobbin/dom.Tree).ups -/
def a_dom_Tree_ups : ACode :=
  .seq (
   .ops [⟨some 2, .box true (.tmp 0), none⟩,
     ⟨some 3, .box false (.tmp 1), none⟩,
     ⟨some 4, .val (.val (.lit .nilFunc)), none⟩]) (
  .seq (
   .ops [⟨some 5, .mkfn (.func 59) [] [(.tmp 3), (.tmp 2)], none⟩,
     ⟨some 4, .val (.tmp 5), none⟩]) (
  .ret))

theorem c_dom_Tree_ups : codeOf Try.prog { bz := [2] } 45 = some (a_dom_Tree_ups, [.tmp 4], 6) := by kernel_rfl

/-- (*bobbin/dom.Tree).ups$1 -/
def a_dom_Tree_ups_1b1 : ACode :=
      .seq (
       .seq (
        .ops [⟨some 4, .load false 1 (.tmp 1), none⟩,
          ⟨some 5, .bin .geq .num (.tmp 4) (.val (.lit (.int .i64 0))), none⟩]) (
       .cond (.tmp 5) (
         .skip) (
         .exit 0))) (
      .seq (
       .block 1 (
         .seq (
          .ops [⟨some 13, .val (.tmp 0), none⟩,
            ⟨some 14, .load false 1 (.tmp 1), none⟩,
            ⟨some 15, .call (.tmp 13) [(.tmp 14)], none⟩,
            ⟨some 16, .un .not (.tmp 15), none⟩]) (
         .cond (.tmp 16) (
           .ret) (
           .skip)))) (
      .ops [⟨some 6, .load false 1 (.tmp 2), none⟩,
        ⟨some 7, .nilck (.tmp 6), none⟩,
        ⟨some 8, .fieldAddr 0 (.tmp 7), none⟩,
        ⟨some 9, .load false 1 (.tmp 8), none⟩,
        ⟨some 10, .load false 1 (.tmp 1), none⟩,
        ⟨some 11, .indexAddr 1 (.tmp 9) (.tmp 10), none⟩,
        ⟨some 12, .load false 1 (.tmp 11), none⟩,
        ⟨none, .store 1 (.tmp 1) (.tmp 12), none⟩]))

def a_dom_Tree_ups_1 : ACode :=
  .block 0 (
    .loop a_dom_Tree_ups_1b1)

theorem c_dom_Tree_ups_1 : codeOf Try.prog {  } 59 = some (a_dom_Tree_ups_1, [], 17) := by kernel_rfl

/-- (*bobbin/dom.Tree).meet -/
def a_dom_Tree_meetb1 : ACode :=
       .seq (
        .seq (
         .ops [⟨some 7, .val (.tmp 1), none⟩,
           ⟨some 8, .val (.tmp 2), none⟩,
           ⟨some 9, .bin .neq .num (.tmp 7) (.tmp 8), none⟩]) (
        .cond (.tmp 9) (
          .skip) (
          .exit 0))) (
       .block 1 (
         .seq (
          .ops [⟨some 10, .val (.tmp 0), none⟩,
            ⟨some 11, .nilck (.tmp 10), none⟩,
            ⟨some 12, .fieldAddr 1 (.tmp 11), none⟩,
            ⟨some 14, .val (.tmp 1), none⟩,
            ⟨some 17, .val (.tmp 0), none⟩,
            ⟨some 18, .nilck (.tmp 17), none⟩,
            ⟨some 19, .fieldAddr 1 (.tmp 18), none⟩,
            ⟨some 21, .val (.tmp 2), none⟩,
            ⟨some 13, .load false 1 (.tmp 12), none⟩,
            ⟨some 15, .indexAddr 1 (.tmp 13) (.tmp 14), none⟩,
            ⟨some 16, .load false 1 (.tmp 15), none⟩,
            ⟨some 20, .load false 1 (.tmp 19), none⟩,
            ⟨some 22, .indexAddr 1 (.tmp 20) (.tmp 21), none⟩,
            ⟨some 23, .load false 1 (.tmp 22), none⟩,
            ⟨some 24, .bin .gtr .num (.tmp 16) (.tmp 23), none⟩]) (
         .cond (.tmp 24) (
           .ops [⟨some 25, .val (.tmp 0), none⟩,
             ⟨some 26, .nilck (.tmp 25), none⟩,
             ⟨some 27, .fieldAddr 0 (.tmp 26), none⟩,
             ⟨some 28, .load false 1 (.tmp 27), none⟩,
             ⟨some 29, .val (.tmp 1), none⟩,
             ⟨some 30, .indexAddr 1 (.tmp 28) (.tmp 29), none⟩,
             ⟨some 31, .load false 1 (.tmp 30), none⟩,
             ⟨some 1, .val (.tmp 31), none⟩]) (
           .ops [⟨some 32, .val (.tmp 0), none⟩,
             ⟨some 33, .nilck (.tmp 32), none⟩,
             ⟨some 34, .fieldAddr 0 (.tmp 33), none⟩,
             ⟨some 35, .load false 1 (.tmp 34), none⟩,
             ⟨some 36, .val (.tmp 2), none⟩,
             ⟨some 37, .indexAddr 1 (.tmp 35) (.tmp 36), none⟩,
             ⟨some 38, .load false 1 (.tmp 37), none⟩,
             ⟨some 2, .val (.tmp 38), none⟩]))))

def a_dom_Tree_meet : ACode :=
  .seq (
   .ops [⟨some 6, .val (.val (.lit (.int .i64 0))), none⟩]) (
  .seq (
   .block 0 (
     .loop a_dom_Tree_meetb1)) (
  .seq (
   .ops [⟨some 39, .val (.tmp 1), none⟩,
     ⟨some 6, .val (.tmp 39), none⟩]) (
  .ret)))

theorem c_dom_Tree_meet : codeOf Try.prog {  } 41 = some (a_dom_Tree_meet, [.tmp 6], 40) := by kernel_rfl

/-- bobbin/dom.Of -/
def a_dom_Ofb1 : ACode :=
                     .seq (
                      .ops [⟨some 61, .bin .lss .num (.tmp 60) (.tmp 59), none⟩]) (
                     .seq (
                      .cond (.tmp 61) (
                        .skip) (
                        .exit 6)) (
                     .seq (
                      .block 7 (
                        .seq (
                         .ops [⟨some 62, .indexAddr 1 (.tmp 58) (.tmp 60), none⟩,
                           ⟨some 63, .load false 1 (.tmp 62), none⟩,
                           ⟨some 14, .val (.tmp 63), none⟩]) (
                        .block 8 (
                          .seq (
                           .ops [⟨some 69, .val (.tmp 4), none⟩,
                             ⟨some 70, .nilck (.tmp 69), none⟩,
                             ⟨some 71, .fieldAddr 1 (.tmp 70), none⟩,
                             ⟨some 72, .load false 1 (.tmp 71), none⟩,
                             ⟨some 73, .val (.tmp 14), none⟩,
                             ⟨some 74, .indexAddr 1 (.tmp 72) (.tmp 73), none⟩,
                             ⟨some 75, .load false 1 (.tmp 74), none⟩,
                             ⟨some 76, .bin .lss .num (.tmp 75) (.val (.lit (.int .i64 0))), none⟩,
                             ⟨some 77, .val (.tmp 76), none⟩,
                             ⟨some 78, .val (.tmp 14), some (77, false)⟩,
                             ⟨some 79, .bin .neq .num (.tmp 78) (.val (.lit (.int .i64 0))), some (77, false)⟩,
                             ⟨some 80, .val (.tmp 79), some (77, false)⟩,
                             ⟨some 81, .val (.tmp 4), some (80, true)⟩,
                             ⟨some 82, .nilck (.tmp 81), some (80, true)⟩,
                             ⟨some 83, .fieldAddr 0 (.tmp 82), some (80, true)⟩,
                             ⟨some 84, .load false 1 (.tmp 83), some (80, true)⟩,
                             ⟨some 85, .val (.tmp 14), some (80, true)⟩,
                             ⟨some 86, .indexAddr 1 (.tmp 84) (.tmp 85), some (80, true)⟩,
                             ⟨some 87, .load false 1 (.tmp 86), some (80, true)⟩,
                             ⟨some 88, .bin .lss .num (.tmp 87) (.val (.lit (.int .i64 0))), some (80, true)⟩,
                             ⟨some 89, .pick (.tmp 80) (.tmp 88) (.val (.lit (.bool false))), some (77, false)⟩,
                             ⟨some 90, .pick (.tmp 77) (.val (.lit (.bool true))) (.tmp 89), none⟩,
                             ⟨some 68, .val (.tmp 90), none⟩]) (
                          .cond (.tmp 68) (
                            .skip) (
                            .seq (
                             .ops [⟨some 92, .val (.tmp 12), none⟩,
                               ⟨some 93, .bin .lss .num (.tmp 92) (.val (.lit (.int .i64 0))), none⟩,
                               ⟨some 91, .val (.tmp 93), none⟩]) (
                            .cond (.tmp 91) (
                              .ops [⟨some 94, .val (.tmp 14), none⟩,
                                ⟨some 12, .val (.tmp 94), none⟩]) (
                              .ops [⟨some 64, .val (.tmp 4), none⟩,
                                ⟨some 65, .val (.tmp 12), none⟩,
                                ⟨some 66, .val (.tmp 14), none⟩,
                                ⟨some 67, .call (.val (.fn (.func 41) [] [])) [(.tmp 64), (.tmp 65), (.tmp 66)], none⟩,
                                ⟨some 12, .val (.tmp 67), none⟩])))))))) (
                     .ops [⟨some 95, .bin .add .num (.tmp 60) (.val (.lit (.int .i64 1))), none⟩,
                       ⟨some 60, .val (.tmp 95), none⟩])))

def a_Of_ways : ACode :=
                 .seq (
                  .ops [⟨some 55, .val (.tmp 6), none⟩,
                    ⟨some 56, .val (.tmp 11), none⟩,
                    ⟨some 57, .indexAddr 1 (.tmp 55) (.tmp 56), none⟩,
                    ⟨some 58, .load false 1 (.tmp 57), none⟩,
                    ⟨some 59, .len 1 (.tmp 58), none⟩,
                    ⟨some 60, .val (.val (.lit (.int .i64 0))), none⟩]) (
                 .block 6 (
                   .loop a_dom_Ofb1))

def a_Of_put : ACode :=
                .seq (
                 .ops [⟨some 96, .val (.tmp 4), none⟩,
                   ⟨some 97, .nilck (.tmp 96), none⟩,
                   ⟨some 98, .fieldAddr 0 (.tmp 97), none⟩,
                   ⟨some 99, .load false 1 (.tmp 98), none⟩,
                   ⟨some 100, .val (.tmp 11), none⟩,
                   ⟨some 101, .indexAddr 1 (.tmp 99) (.tmp 100), none⟩,
                   ⟨some 102, .load false 1 (.tmp 101), none⟩,
                   ⟨some 103, .val (.tmp 12), none⟩,
                   ⟨some 104, .bin .neq .num (.tmp 102) (.tmp 103), none⟩]) (
                .cond (.tmp 104) (
                  .seq (
                   .ops [⟨some 105, .val (.tmp 4), none⟩,
                     ⟨some 106, .nilck (.tmp 105), none⟩,
                     ⟨some 107, .fieldAddr 0 (.tmp 106), none⟩,
                     ⟨some 108, .load false 1 (.tmp 107), none⟩,
                     ⟨some 109, .val (.tmp 11), none⟩,
                     ⟨some 110, .val (.tmp 12), none⟩,
                     ⟨some 111, .indexAddr 1 (.tmp 108) (.tmp 109), none⟩,
                     ⟨none, .store 1 (.tmp 111) (.tmp 110), none⟩]) (
                  .ops [⟨some 9, .val (.val (.lit (.bool true))), none⟩])) (
                  .skip))

def a_dom_Ofb2 : ACode :=
             .seq (
              .ops [⟨some 52, .bin .lss .num (.tmp 51) (.tmp 50), none⟩]) (
             .seq (
              .cond (.tmp 52) (
                .skip) (
                .exit 4)) (
             .seq (
              .block 5 (
                .seq (
                 .ops [⟨some 53, .indexAddr 1 (.tmp 49) (.tmp 51), none⟩,
                   ⟨some 54, .load false 1 (.tmp 53), none⟩,
                   ⟨some 11, .val (.tmp 54), none⟩]) (
                .seq (
                 .ops [⟨some 12, .val (.val (.lit (.int .i64 (-1)))), none⟩]) (
                .seq a_Of_ways a_Of_put)))) (
             .ops [⟨some 112, .bin .add .num (.tmp 51) (.val (.lit (.int .i64 1))), none⟩,
               ⟨some 51, .val (.tmp 112), none⟩])))

def a_dom_Ofb3 : ACode :=
       .seq (
        .seq (
         .ops [⟨some 47, .val (.tmp 9), none⟩]) (
        .cond (.tmp 47) (
          .skip) (
          .exit 2))) (
       .block 3 (
         .seq (
          .ops [⟨some 9, .val (.val (.lit (.bool false))), none⟩]) (
         .seq (
          .ops [⟨some 48, .val (.tmp 5), none⟩,
            ⟨some 49, .slice 1 (.tmp 48) (some (.val (.lit (.int .i64 1)))) none none, none⟩,
            ⟨some 50, .len 1 (.tmp 49), none⟩,
            ⟨some 51, .val (.val (.lit (.int .i64 0))), none⟩]) (
         .block 4 (
           .loop a_dom_Ofb2)))))

def a_dom_Ofb4 : ACode :=
       .seq (
        .ops [⟨some 35, .bin .lss .num (.tmp 34) (.tmp 33), none⟩]) (
       .seq (
        .cond (.tmp 35) (
          .skip) (
          .exit 0)) (
       .seq (
        .block 1 (
          .seq (
           .ops [⟨some 36, .val (.tmp 34), none⟩,
             ⟨some 37, .indexAddr 1 (.tmp 32) (.tmp 34), none⟩,
             ⟨some 38, .load false 1 (.tmp 37), none⟩,
             ⟨some 7, .val (.tmp 36), none⟩,
             ⟨some 8, .val (.tmp 38), none⟩]) (
          .ops [⟨some 39, .val (.tmp 4), none⟩,
            ⟨some 40, .nilck (.tmp 39), none⟩,
            ⟨some 41, .fieldAddr 1 (.tmp 40), none⟩,
            ⟨some 42, .load false 1 (.tmp 41), none⟩,
            ⟨some 43, .val (.tmp 8), none⟩,
            ⟨some 44, .val (.tmp 7), none⟩,
            ⟨some 45, .indexAddr 1 (.tmp 42) (.tmp 43), none⟩,
            ⟨none, .store 1 (.tmp 45) (.tmp 44), none⟩]))) (
       .ops [⟨some 46, .bin .add .num (.tmp 34) (.val (.lit (.int .i64 1))), none⟩,
         ⟨some 34, .val (.tmp 46), none⟩])))

def a_Of_place : ACode :=
   .seq (
    .ops [⟨some 32, .val (.tmp 5), none⟩,
      ⟨some 33, .len 1 (.tmp 32), none⟩,
      ⟨some 34, .val (.val (.lit (.int .i64 0))), none⟩]) (
   .block 0 (
     .loop a_dom_Ofb4))

def a_Of_main : ACode :=
   .seq (
    .ops [⟨some 9, .val (.val (.lit (.bool true))), none⟩]) (
   .block 2 (
     .loop a_dom_Ofb3))

def a_dom_Of : ACode :=
  .seq (
   .ops [⟨some 2, .val (.val (.lit (.pointer none))), none⟩,
     ⟨some 3, .val (.val (.lit (.int .i64 0))), none⟩]) (
  .seq (
   .seq (
    .ops [⟨some 15, .val (.tmp 0), none⟩,
      ⟨some 16, .call (.val (.fn (.func 37) [] [])) [(.tmp 15)], none⟩,
      ⟨some 17, .un .not (.tmp 16), none⟩]) (
   .cond (.tmp 17) (
     .seq (
      .ops [⟨some 2, .val (.val (.lit (.pointer none))), none⟩,
        ⟨some 3, .val (.val (.lit (.int .i64 4))), none⟩]) (
     .ret)) (
     .skip))) (
  .seq (
   .ops [⟨some 18, .bslice false 1 1 [(.lit (.int .i64 0))] [(0, 1, (.val (.lit (.int .i64 (-1)))))], none⟩,
     ⟨some 19, .val (.tmp 0), none⟩,
     ⟨some 20, .len 1 (.tmp 19), none⟩,
     ⟨some 21, .call (.val (.fn (.func 38) [] [])) [(.tmp 18), (.tmp 20)], none⟩,
     ⟨some 22, .bslice false 1 1 [(.lit (.int .i64 0))] [(0, 1, (.val (.lit (.int .i64 (-1)))))], none⟩,
     ⟨some 23, .val (.tmp 0), none⟩,
     ⟨some 24, .len 1 (.tmp 23), none⟩,
     ⟨some 25, .call (.val (.fn (.func 38) [] [])) [(.tmp 22), (.tmp 24)], none⟩,
     ⟨some 26, .build [(.sl .nil 0 []), (.sl .nil 0 [])] [(0, 1, (.tmp 21)), (1, 1, (.tmp 25))], none⟩,
     ⟨some 27, .box false (.tmp 26), none⟩,
     ⟨some 4, .val (.tmp 27), none⟩]) (
  .seq (
   .ops [⟨some 28, .val (.tmp 0), none⟩,
     ⟨some 29, .call (.val (.fn (.func 39) [] [])) [(.tmp 28)], none⟩,
     ⟨some 30, .val (.tmp 0), none⟩,
     ⟨some 31, .call (.val (.fn (.func 40) [] [])) [(.tmp 30)], none⟩,
     ⟨some 5, .val (.tmp 29), none⟩,
     ⟨some 6, .val (.tmp 31), none⟩]) (
  .seq a_Of_place (
  .seq a_Of_main (
  .seq (
   .ops [⟨some 113, .val (.tmp 4), none⟩,
     ⟨some 2, .val (.tmp 113), none⟩,
     ⟨some 3, .val (.val (.lit (.int .i64 0))), none⟩]) (
  .ret)))))))

theorem c_dom_Of : codeOf Try.prog {  } 16 = some (a_dom_Of, [.tmp 2, .tmp 3], 114) := by kernel_rfl

/-- slices.Repeat[[]int,int] -/
def a_slices_Repeat_int_intb1 : ACode :=
       .seq (
        .seq (
         .ops [⟨some 34, .val (.tmp 8), none⟩,
           ⟨some 35, .val (.tmp 7), none⟩,
           ⟨some 36, .len 1 (.tmp 35), none⟩,
           ⟨some 37, .bin .lss .num (.tmp 34) (.tmp 36), none⟩]) (
        .cond (.tmp 37) (
          .skip) (
          .exit 0))) (
       .block 1 (
         .ops [⟨some 38, .val (.tmp 8), none⟩,
           ⟨some 39, .val (.tmp 7), none⟩,
           ⟨some 40, .val (.tmp 8), none⟩,
           ⟨some 41, .slice 1 (.tmp 39) (some (.tmp 40)) none none, none⟩,
           ⟨some 42, .val (.tmp 7), none⟩,
           ⟨some 43, .val (.tmp 8), none⟩,
           ⟨some 44, .slice 1 (.tmp 42) none (some (.tmp 43)) none, none⟩,
           ⟨some 45, .copy 1 (.tmp 41) (.tmp 44), none⟩,
           ⟨some 46, .bin .add .num (.tmp 38) (.tmp 45), none⟩,
           ⟨some 8, .val (.tmp 46), none⟩]))

def a_slices_Repeat_int_int : ACode :=
  .seq (
   .ops [⟨some 4, .val (.val (.sl .nil 0 [])), none⟩]) (
  .seq (
   .seq (
    .ops [⟨some 9, .val (.tmp 1), none⟩,
      ⟨some 10, .bin .lss .num (.tmp 9) (.val (.lit (.int .i64 0))), none⟩]) (
   .cond (.tmp 10) (
     .ops [⟨some 11, .mkifc 9 (.val (.lit (.string ⟨#[99, 97, 110, 110, 111, 116, 32, 98, 101, 32, 110, 101, 103, 97, 116, 105, 118, 101]⟩))), none⟩,
       ⟨none, .bad, none⟩]) (
     .skip))) (
  .seq (
   .ops [⟨some 13, .val (.tmp 0), none⟩,
     ⟨some 14, .len 1 (.tmp 13), none⟩,
     ⟨some 15, .conv .u64 (.tmp 14), none⟩,
     ⟨some 16, .val (.tmp 1), none⟩,
     ⟨some 17, .conv .u64 (.tmp 16), none⟩,
     ⟨some 18, .call (.val (.fn (.func 56) [] [])) [(.tmp 15), (.tmp 17)], none⟩,
     ⟨some 12, .val (.tmp 18), none⟩,
     ⟨some 19, .extract (.tmp 12) 0, none⟩,
     ⟨some 20, .extract (.tmp 12) 1, none⟩,
     ⟨some 5, .val (.tmp 19), none⟩,
     ⟨some 6, .val (.tmp 20), none⟩]) (
  .seq (
   .seq (
    .ops [⟨some 21, .val (.tmp 5), none⟩,
      ⟨some 22, .bin .gtr .num (.tmp 21) (.val (.lit (.int .u64 0))), none⟩,
      ⟨some 23, .val (.tmp 22), none⟩,
      ⟨some 24, .val (.tmp 6), some (23, false)⟩,
      ⟨some 25, .bin .gtr .num (.tmp 24) (.val (.lit (.int .u64 9223372036854775807))), some (23, false)⟩,
      ⟨some 26, .pick (.tmp 23) (.val (.lit (.bool true))) (.tmp 25), none⟩]) (
   .cond (.tmp 26) (
     .ops [⟨some 27, .mkifc 9 (.val (.lit (.string ⟨#[116, 104, 101, 32, 114, 101, 115, 117, 108, 116, 32, 111, 102, 32, 40, 108, 101, 110, 40, 120, 41, 32, 42, 32, 99, 111, 117, 110, 116, 41, 32, 111, 118, 101, 114, 102, 108, 111, 119, 115]⟩))), none⟩,
       ⟨none, .bad, none⟩]) (
     .skip))) (
  .seq (
   .ops [⟨some 28, .val (.tmp 6), none⟩,
     ⟨some 29, .conv .i64 (.tmp 28), none⟩,
     ⟨some 30, .mkslice 1 8 [(.lit (.int .i64 0))] (.tmp 29) (.tmp 29), none⟩,
     ⟨some 7, .val (.tmp 30), none⟩]) (
  .seq (
   .ops [⟨some 31, .val (.tmp 7), none⟩,
     ⟨some 32, .val (.tmp 0), none⟩,
     ⟨some 33, .copy 1 (.tmp 31) (.tmp 32), none⟩,
     ⟨some 8, .val (.tmp 33), none⟩]) (
  .seq (
   .block 0 (
     .loop a_slices_Repeat_int_intb1)) (
  .seq (
   .ops [⟨some 47, .val (.tmp 7), none⟩,
     ⟨some 4, .val (.tmp 47), none⟩]) (
  .ret))))))))

theorem c_slices_Repeat_int_int : codeOf Try.prog {  } 38 = some (a_slices_Repeat_int_int, [.tmp 4], 48) := by kernel_rfl

/-- math/bits.Mul -/
def a_math_bits_Mul : ACode :=
  .seq (
   .ops [⟨some 4, .val (.val (.lit (.int .u64 0))), none⟩,
     ⟨some 5, .val (.val (.lit (.int .u64 0))), none⟩]) (
  .seq (
   .cond (.val (.lit (.bool false))) (
     .seq (
      .ops [⟨some 11, .val (.tmp 0), none⟩,
        ⟨some 12, .conv .u32 (.tmp 11), none⟩,
        ⟨some 13, .val (.tmp 1), none⟩,
        ⟨some 14, .conv .u32 (.tmp 13), none⟩,
        ⟨some 15, .call (.val (.fn (.func 65) [] [])) [(.tmp 12), (.tmp 14)], none⟩,
        ⟨some 10, .val (.tmp 15), none⟩,
        ⟨some 16, .extract (.tmp 10) 0, none⟩,
        ⟨some 17, .extract (.tmp 10) 1, none⟩,
        ⟨some 6, .val (.tmp 16), none⟩,
        ⟨some 7, .val (.tmp 17), none⟩]) (
     .seq (
      .ops [⟨some 18, .val (.tmp 6), none⟩,
        ⟨some 19, .conv .u64 (.tmp 18), none⟩,
        ⟨some 20, .val (.tmp 7), none⟩,
        ⟨some 21, .conv .u64 (.tmp 20), none⟩,
        ⟨some 4, .val (.tmp 19), none⟩,
        ⟨some 5, .val (.tmp 21), none⟩]) (
     .ret))) (
     .skip)) (
  .seq (
   .ops [⟨some 23, .val (.tmp 0), none⟩,
     ⟨some 24, .val (.tmp 1), none⟩,
     ⟨some 25, .call (.val (.fn (.func 66) [] [])) [(.tmp 23), (.tmp 24)], none⟩,
     ⟨some 22, .val (.tmp 25), none⟩,
     ⟨some 26, .extract (.tmp 22) 0, none⟩,
     ⟨some 27, .extract (.tmp 22) 1, none⟩,
     ⟨some 8, .val (.tmp 26), none⟩,
     ⟨some 9, .val (.tmp 27), none⟩]) (
  .seq (
   .ops [⟨some 28, .val (.tmp 8), none⟩,
     ⟨some 29, .val (.tmp 9), none⟩,
     ⟨some 4, .val (.tmp 28), none⟩,
     ⟨some 5, .val (.tmp 29), none⟩]) (
  .ret))))

theorem c_math_bits_Mul : codeOf Try.prog {  } 56 = some (a_math_bits_Mul, [.tmp 4, .tmp 5], 30) := by kernel_rfl

/-- math/bits.Mul64 -/
def a_math_bits_Mul64 : ACode :=
  .seq (
   .ops [⟨some 4, .val (.val (.lit (.int .u64 0))), none⟩,
     ⟨some 5, .val (.val (.lit (.int .u64 0))), none⟩]) (
  .seq (
   .ops [⟨some 14, .val (.tmp 0), none⟩,
     ⟨some 15, .bin .and .num (.tmp 14) (.val (.lit (.int .u64 4294967295))), none⟩,
     ⟨some 6, .val (.tmp 15), none⟩]) (
  .seq (
   .ops [⟨some 16, .val (.tmp 0), none⟩,
     ⟨some 17, .bin .shr .num (.tmp 16) (.val (.lit (.int .u64 32))), none⟩,
     ⟨some 7, .val (.tmp 17), none⟩]) (
  .seq (
   .ops [⟨some 18, .val (.tmp 1), none⟩,
     ⟨some 19, .bin .and .num (.tmp 18) (.val (.lit (.int .u64 4294967295))), none⟩,
     ⟨some 8, .val (.tmp 19), none⟩]) (
  .seq (
   .ops [⟨some 20, .val (.tmp 1), none⟩,
     ⟨some 21, .bin .shr .num (.tmp 20) (.val (.lit (.int .u64 32))), none⟩,
     ⟨some 9, .val (.tmp 21), none⟩]) (
  .seq (
   .ops [⟨some 22, .val (.tmp 6), none⟩,
     ⟨some 23, .val (.tmp 8), none⟩,
     ⟨some 24, .bin .mul .num (.tmp 22) (.tmp 23), none⟩,
     ⟨some 10, .val (.tmp 24), none⟩]) (
  .seq (
   .ops [⟨some 25, .val (.tmp 7), none⟩,
     ⟨some 26, .val (.tmp 8), none⟩,
     ⟨some 27, .bin .mul .num (.tmp 25) (.tmp 26), none⟩,
     ⟨some 28, .val (.tmp 10), none⟩,
     ⟨some 29, .bin .shr .num (.tmp 28) (.val (.lit (.int .u64 32))), none⟩,
     ⟨some 30, .bin .add .num (.tmp 27) (.tmp 29), none⟩,
     ⟨some 11, .val (.tmp 30), none⟩]) (
  .seq (
   .ops [⟨some 31, .val (.tmp 11), none⟩,
     ⟨some 32, .bin .and .num (.tmp 31) (.val (.lit (.int .u64 4294967295))), none⟩,
     ⟨some 12, .val (.tmp 32), none⟩]) (
  .seq (
   .ops [⟨some 33, .val (.tmp 11), none⟩,
     ⟨some 34, .bin .shr .num (.tmp 33) (.val (.lit (.int .u64 32))), none⟩,
     ⟨some 13, .val (.tmp 34), none⟩]) (
  .seq (
   .ops [⟨some 35, .val (.tmp 12), none⟩,
     ⟨some 36, .val (.tmp 6), none⟩,
     ⟨some 37, .val (.tmp 9), none⟩,
     ⟨some 38, .bin .mul .num (.tmp 36) (.tmp 37), none⟩,
     ⟨some 39, .bin .add .num (.tmp 35) (.tmp 38), none⟩,
     ⟨some 12, .val (.tmp 39), none⟩]) (
  .seq (
   .ops [⟨some 40, .val (.tmp 7), none⟩,
     ⟨some 41, .val (.tmp 9), none⟩,
     ⟨some 42, .bin .mul .num (.tmp 40) (.tmp 41), none⟩,
     ⟨some 43, .val (.tmp 13), none⟩,
     ⟨some 44, .bin .add .num (.tmp 42) (.tmp 43), none⟩,
     ⟨some 45, .val (.tmp 12), none⟩,
     ⟨some 46, .bin .shr .num (.tmp 45) (.val (.lit (.int .u64 32))), none⟩,
     ⟨some 47, .bin .add .num (.tmp 44) (.tmp 46), none⟩,
     ⟨some 4, .val (.tmp 47), none⟩]) (
  .seq (
   .ops [⟨some 48, .val (.tmp 0), none⟩,
     ⟨some 49, .val (.tmp 1), none⟩,
     ⟨some 50, .bin .mul .num (.tmp 48) (.tmp 49), none⟩,
     ⟨some 5, .val (.tmp 50), none⟩]) (
  .ret))))))))))))

theorem c_math_bits_Mul64 : codeOf Try.prog {  } 66 = some (a_math_bits_Mul64, [.tmp 4, .tmp 5], 51) := by kernel_rfl

/-- math/bits.Mul32 -/
def a_math_bits_Mul32 : ACode :=
  .seq (
   .ops [⟨some 4, .val (.val (.lit (.int .u32 0))), none⟩,
     ⟨some 5, .val (.val (.lit (.int .u32 0))), none⟩]) (
  .seq (
   .ops [⟨some 7, .val (.tmp 0), none⟩,
     ⟨some 8, .conv .u64 (.tmp 7), none⟩,
     ⟨some 9, .val (.tmp 1), none⟩,
     ⟨some 10, .conv .u64 (.tmp 9), none⟩,
     ⟨some 11, .bin .mul .num (.tmp 8) (.tmp 10), none⟩,
     ⟨some 6, .val (.tmp 11), none⟩]) (
  .seq (
   .ops [⟨some 12, .val (.tmp 6), none⟩,
     ⟨some 13, .bin .shr .num (.tmp 12) (.val (.lit (.int .u64 32))), none⟩,
     ⟨some 14, .conv .u32 (.tmp 13), none⟩,
     ⟨some 15, .val (.tmp 6), none⟩,
     ⟨some 16, .conv .u32 (.tmp 15), none⟩,
     ⟨some 4, .val (.tmp 14), none⟩,
     ⟨some 5, .val (.tmp 16), none⟩]) (
  .ret)))

theorem c_math_bits_Mul32 : codeOf Try.prog {  } 65 = some (a_math_bits_Mul32, [.tmp 4, .tmp 5], 17) := by kernel_rfl

/-- (*bobbin/dom.Tree).Reached -/
def a_dom_Tree_Reached : ACode :=
  .seq (
   .ops [⟨some 4, .val (.val (.lit (.bool false))), none⟩]) (
  .seq (
   .ops [⟨some 5, .val (.tmp 0), none⟩,
     ⟨some 6, .bin .neq .ptr (.tmp 5) (.val (.lit (.pointer none))), none⟩,
     ⟨some 7, .val (.tmp 6), none⟩,
     ⟨some 8, .val (.tmp 1), some (7, true)⟩,
     ⟨some 9, .bin .geq .num (.tmp 8) (.val (.lit (.int .i64 0))), some (7, true)⟩,
     ⟨some 10, .pick (.tmp 7) (.tmp 9) (.val (.lit (.bool false))), none⟩,
     ⟨some 11, .val (.tmp 10), none⟩,
     ⟨some 12, .val (.tmp 1), some (11, true)⟩,
     ⟨some 13, .val (.tmp 0), some (11, true)⟩,
     ⟨some 14, .nilck (.tmp 13), some (11, true)⟩,
     ⟨some 15, .fieldAddr 1 (.tmp 14), some (11, true)⟩,
     ⟨some 16, .load false 1 (.tmp 15), some (11, true)⟩,
     ⟨some 17, .len 1 (.tmp 16), some (11, true)⟩,
     ⟨some 18, .bin .lss .num (.tmp 12) (.tmp 17), some (11, true)⟩,
     ⟨some 19, .pick (.tmp 11) (.tmp 18) (.val (.lit (.bool false))), none⟩,
     ⟨some 20, .val (.tmp 19), none⟩,
     ⟨some 21, .val (.tmp 0), some (20, true)⟩,
     ⟨some 22, .nilck (.tmp 21), some (20, true)⟩,
     ⟨some 23, .fieldAddr 1 (.tmp 22), some (20, true)⟩,
     ⟨some 24, .load false 1 (.tmp 23), some (20, true)⟩,
     ⟨some 25, .val (.tmp 1), some (20, true)⟩,
     ⟨some 26, .indexAddr 1 (.tmp 24) (.tmp 25), some (20, true)⟩,
     ⟨some 27, .load false 1 (.tmp 26), some (20, true)⟩,
     ⟨some 28, .bin .geq .num (.tmp 27) (.val (.lit (.int .i64 0))), some (20, true)⟩,
     ⟨some 29, .pick (.tmp 20) (.tmp 28) (.val (.lit (.bool false))), none⟩,
     ⟨some 4, .val (.tmp 29), none⟩]) (
  .ret))

theorem c_dom_Tree_Reached : codeOf Try.prog {  } 21 = some (a_dom_Tree_Reached, [.tmp 4], 30) := by kernel_rfl

/-- (*bobbin/dom.Tree).Next -/
def a_dom_Tree_Next : ACode :=
  .seq (
   .ops [⟨some 4, .val (.val (.lit (.int .i64 0))), none⟩]) (
  .seq (
   .seq (
    .ops [⟨some 5, .val (.tmp 0), none⟩,
      ⟨some 6, .val (.tmp 1), none⟩,
      ⟨some 7, .call (.val (.fn (.func 21) [] [])) [(.tmp 5), (.tmp 6)], none⟩,
      ⟨some 8, .un .not (.tmp 7), none⟩]) (
   .cond (.tmp 8) (
     .seq (
      .ops [⟨some 4, .val (.val (.lit (.int .i64 (-1)))), none⟩]) (
     .ret)) (
     .skip))) (
  .seq (
   .ops [⟨some 9, .val (.tmp 0), none⟩,
     ⟨some 10, .nilck (.tmp 9), none⟩,
     ⟨some 11, .fieldAddr 0 (.tmp 10), none⟩,
     ⟨some 12, .load false 1 (.tmp 11), none⟩,
     ⟨some 13, .val (.tmp 1), none⟩,
     ⟨some 14, .indexAddr 1 (.tmp 12) (.tmp 13), none⟩,
     ⟨some 15, .load false 1 (.tmp 14), none⟩,
     ⟨some 4, .val (.tmp 15), none⟩]) (
  .ret)))

theorem c_dom_Tree_Next : codeOf Try.prog {  } 22 = some (a_dom_Tree_Next, [.tmp 4], 16) := by kernel_rfl

/-- (*bobbin/dom.Tree).Above -/
def a_dom_Tree_Above : ACode :=
  .seq (
   .ops [⟨some 4, .box true (.tmp 1), none⟩,
     ⟨some 6, .alloc [(.lit (.bool false))], none⟩]) (
  .seq (
   .seq (
    .ops [⟨some 8, .val (.tmp 0), none⟩,
      ⟨some 9, .iload false 1 (.tmp 4), none⟩,
      ⟨some 10, .call (.val (.fn (.func 21) [] [])) [(.tmp 8), (.tmp 9)], none⟩,
      ⟨some 11, .un .not (.tmp 10), none⟩,
      ⟨some 12, .val (.tmp 11), none⟩,
      ⟨some 13, .val (.tmp 0), some (12, false)⟩,
      ⟨some 14, .val (.tmp 2), some (12, false)⟩,
      ⟨some 15, .call (.val (.fn (.func 21) [] [])) [(.tmp 13), (.tmp 14)], some (12, false)⟩,
      ⟨some 16, .un .not (.tmp 15), some (12, false)⟩,
      ⟨some 17, .pick (.tmp 12) (.val (.lit (.bool true))) (.tmp 16), none⟩]) (
   .cond (.tmp 17) (
     .seq (
      .ops [⟨none, .store 1 (.tmp 6) (.val (.lit (.bool false))), none⟩]) (
     .ret)) (
     .skip))) (
  .seq (
   .seq (
    .ops [⟨some 18, .val (.tmp 0), none⟩,
      ⟨some 19, .val (.tmp 2), none⟩,
      ⟨some 20, .call (.val (.fn (.func 45) [] [])) [(.tmp 18), (.tmp 19)], none⟩]) (
   .block 0 (
     .range (.tmp 20) [21] (
       .ops [⟨some 7, .val (.tmp 21), none⟩]) (
       .block 1 (
         .seq (
          .ops [⟨some 22, .val (.tmp 7), none⟩,
            ⟨some 23, .iload false 1 (.tmp 4), none⟩,
            ⟨some 24, .bin .eql .num (.tmp 22) (.tmp 23), none⟩]) (
         .cond (.tmp 24) (
           .seq (
            .ops [⟨none, .store 1 (.tmp 6) (.val (.lit (.bool true))), none⟩]) (
           .ret)) (
           .skip))))))) (
  .seq (
   .ops [⟨none, .store 1 (.tmp 6) (.val (.lit (.bool false))), none⟩]) (
  .ret))))

theorem c_dom_Tree_Above : codeOf Try.prog { bz := [4], il := [9, 23] } 26 = some (a_dom_Tree_Above, [.cell 6 1 false], 25) := by kernel_rfl

/-- (*bobbin/dom.Tree).Kids -/
def a_dom_Tree_Kidsb1 : ACode :=
       .seq (
        .ops [⟨some 18, .bin .lss .num (.tmp 17) (.tmp 16), none⟩]) (
       .seq (
        .cond (.tmp 18) (
          .skip) (
          .exit 0)) (
       .seq (
        .block 1 (
          .seq (
           .ops [⟨some 19, .val (.tmp 17), none⟩,
             ⟨some 20, .indexAddr 1 (.tmp 15) (.tmp 17), none⟩,
             ⟨some 21, .load false 1 (.tmp 20), none⟩,
             ⟨some 6, .val (.tmp 19), none⟩,
             ⟨some 7, .val (.tmp 21), none⟩]) (
          .seq (
           .ops [⟨some 22, .val (.tmp 7), none⟩,
             ⟨some 23, .val (.tmp 1), none⟩,
             ⟨some 24, .bin .eql .num (.tmp 22) (.tmp 23), none⟩]) (
          .cond (.tmp 24) (
            .ops [⟨some 25, .val (.tmp 5), none⟩,
              ⟨some 26, .val (.tmp 6), none⟩,
              ⟨some 27, .bslice false 1 1 [(.lit (.int .i64 0))] [(0, 1, (.tmp 26))], none⟩,
              ⟨some 28, .append false 1 8 (.tmp 25) (.tmp 27), none⟩,
              ⟨some 5, .val (.tmp 28), none⟩]) (
            .skip))))) (
       .ops [⟨some 29, .bin .add .num (.tmp 17) (.val (.lit (.int .i64 1))), none⟩,
         ⟨some 17, .val (.tmp 29), none⟩])))

def a_dom_Tree_Kids : ACode :=
  .seq (
   .ops [⟨some 4, .val (.val (.sl .nil 0 [])), none⟩]) (
  .seq (
   .seq (
    .ops [⟨some 8, .val (.tmp 0), none⟩,
      ⟨some 9, .val (.tmp 1), none⟩,
      ⟨some 10, .call (.val (.fn (.func 21) [] [])) [(.tmp 8), (.tmp 9)], none⟩,
      ⟨some 11, .un .not (.tmp 10), none⟩]) (
   .cond (.tmp 11) (
     .seq (
      .ops [⟨some 4, .val (.val (.sl .nil 0 [])), none⟩]) (
     .ret)) (
     .skip))) (
  .seq (
   .ops [⟨some 5, .val (.val (.sl .nil 0 [])), none⟩]) (
  .seq (
   .seq (
    .ops [⟨some 12, .val (.tmp 0), none⟩,
      ⟨some 13, .nilck (.tmp 12), none⟩,
      ⟨some 14, .fieldAddr 0 (.tmp 13), none⟩,
      ⟨some 15, .load false 1 (.tmp 14), none⟩,
      ⟨some 16, .len 1 (.tmp 15), none⟩,
      ⟨some 17, .val (.val (.lit (.int .i64 0))), none⟩]) (
   .block 0 (
     .loop a_dom_Tree_Kidsb1))) (
  .seq (
   .ops [⟨some 30, .val (.tmp 5), none⟩,
     ⟨some 4, .val (.tmp 30), none⟩]) (
  .ret)))))

theorem c_dom_Tree_Kids : codeOf Try.prog {  } 24 = some (a_dom_Tree_Kids, [.tmp 4], 31) := by kernel_rfl

end Go.Proofs.Ytmbbklddjkmcmaa
