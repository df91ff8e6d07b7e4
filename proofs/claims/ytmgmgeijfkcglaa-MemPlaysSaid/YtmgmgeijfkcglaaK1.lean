/- The code of mem's functions, compiled (printed by wip/tools/pa.sh and pk.py). -/
import Derived.Test.YtmgmgeijfkcglaaProg
import Derived.Test.YtmgmgeijfkcglaaM3
namespace Go.Proofs.Ytmgmgeijfkcglaa
set_option linter.unusedSimpArgs false
set_option linter.unusedVariables false
open Go Go.Fw
/-- No package-level variables are named. -/
instance globals : Globals := ⟨fun _ => none⟩
theorem mixed : Try.prog.follows .mixedOrders = true := by kernel_rfl
/-- bobbin/mem.Unary -/
def a11 : ACode :=
  .seq (
   .ops [⟨some 4, .val (.val (.lit (.int .i64 0))), none⟩,
     ⟨some 5, .val (.val (.lit (.bool false))), none⟩]) (
  .seq (
   .seq (
    .ops [⟨some 6, .val (.tmp 0), none⟩]) (
   .block 0 (
     .seq (
      .ops [⟨some 8, .bin .eql .num (.tmp 6) (.val (.lit (.int .u8 5))), none⟩,
        ⟨some 7, .val (.tmp 8), none⟩]) (
     .cond (.tmp 7) (
       .seq (
        .ops [⟨some 9, .val (.tmp 1), none⟩,
          ⟨some 10, .un .neg (.tmp 9), none⟩,
          ⟨some 4, .val (.tmp 10), none⟩,
          ⟨some 5, .val (.val (.lit (.bool true))), none⟩]) (
       .ret)) (
       .seq (
        .ops [⟨some 12, .bin .eql .num (.tmp 6) (.val (.lit (.int .u8 6))), none⟩,
          ⟨some 11, .val (.tmp 12), none⟩]) (
       .cond (.tmp 11) (
         .seq (
          .ops [⟨some 13, .val (.tmp 1), none⟩,
            ⟨some 14, .bin .eql .num (.tmp 13) (.val (.lit (.int .i64 0))), none⟩,
            ⟨some 15, .call (.val (.fn (.func 34) [] [])) [(.tmp 14)], none⟩,
            ⟨some 4, .val (.tmp 15), none⟩,
            ⟨some 5, .val (.val (.lit (.bool true))), none⟩]) (
         .ret)) (
         .skip))))))) (
  .seq (
   .ops [⟨some 4, .val (.val (.lit (.int .i64 0))), none⟩,
     ⟨some 5, .val (.val (.lit (.bool false))), none⟩]) (
  .ret)))

theorem c11 : codeOf Try.prog {  } 11 = some (a11, [.tmp 4, .tmp 5], 16) := by kernel_rfl

/-- bobbin/mem.Binary -/
def a13 : ACode :=
  .seq (
   .ops [⟨some 6, .val (.val (.lit (.int .i64 0))), none⟩,
     ⟨some 7, .val (.val (.lit (.bool false))), none⟩]) (
  .seq (
   .ops [⟨some 11, .call (.val (.fn (.func 36) [] [])) [], none⟩,
     ⟨some 12, .val (.tmp 0), none⟩,
     ⟨some 13, .lookup 0 (.lit .nilFunc) true (.tmp 11) (.tmp 12), none⟩,
     ⟨some 10, .val (.tmp 13), none⟩,
     ⟨some 14, .extract (.tmp 10) 0, none⟩,
     ⟨some 15, .extract (.tmp 10) 1, none⟩,
     ⟨some 8, .val (.tmp 14), none⟩,
     ⟨some 9, .val (.tmp 15), none⟩]) (
  .seq (
   .seq (
    .ops [⟨some 16, .val (.tmp 9), none⟩,
      ⟨some 17, .un .not (.tmp 16), none⟩,
      ⟨some 18, .val (.tmp 17), none⟩,
      ⟨some 19, .val (.tmp 2), some (18, false)⟩,
      ⟨some 20, .bin .eql .num (.tmp 19) (.val (.lit (.int .i64 0))), some (18, false)⟩,
      ⟨some 21, .val (.tmp 20), some (18, false)⟩,
      ⟨some 22, .val (.tmp 0), some (21, true)⟩,
      ⟨some 23, .bin .eql .num (.tmp 22) (.val (.lit (.int .u8 10))), some (21, true)⟩,
      ⟨some 24, .val (.tmp 23), some (21, true)⟩,
      ⟨some 25, .val (.tmp 0), some (24, false)⟩,
      ⟨some 26, .bin .eql .num (.tmp 25) (.val (.lit (.int .u8 11))), some (24, false)⟩,
      ⟨some 27, .pick (.tmp 24) (.val (.lit (.bool true))) (.tmp 26), some (21, true)⟩,
      ⟨some 28, .pick (.tmp 21) (.tmp 27) (.val (.lit (.bool false))), some (18, false)⟩,
      ⟨some 29, .pick (.tmp 18) (.val (.lit (.bool true))) (.tmp 28), none⟩]) (
   .cond (.tmp 29) (
     .seq (
      .ops [⟨some 6, .val (.val (.lit (.int .i64 0))), none⟩,
        ⟨some 7, .val (.val (.lit (.bool false))), none⟩]) (
     .ret)) (
     .skip))) (
  .seq (
   .ops [⟨some 30, .val (.tmp 8), none⟩,
     ⟨some 31, .val (.tmp 1), none⟩,
     ⟨some 32, .val (.tmp 2), none⟩,
     ⟨some 33, .call (.tmp 30) [(.tmp 31), (.tmp 32)], none⟩,
     ⟨some 6, .val (.tmp 33), none⟩,
     ⟨some 7, .val (.val (.lit (.bool true))), none⟩]) (
  .ret))))

theorem c13 : codeOf Try.prog {  } 13 = some (a13, [.tmp 6, .tmp 7], 34) := by kernel_rfl

/-- bobbin/bobbinlaw08.MemNumbers$1 -/
def a16 : ACode :=
  .seq (
   .ops [⟨some 6, .val (.val (.lit (.int .i64 0))), none⟩]) (
  .seq (
   .ops [⟨some 10, .val (.tmp 0), none⟩,
     ⟨some 11, .val (.tmp 1), none⟩,
     ⟨some 12, .val (.tmp 2), none⟩,
     ⟨some 13, .call (.val (.fn (.func 13) [] [])) [(.tmp 10), (.tmp 11), (.tmp 12)], none⟩,
     ⟨some 9, .val (.tmp 13), none⟩,
     ⟨some 14, .extract (.tmp 9) 0, none⟩,
     ⟨some 15, .extract (.tmp 9) 1, none⟩,
     ⟨some 7, .val (.tmp 14), none⟩,
     ⟨some 8, .val (.tmp 15), none⟩]) (
  .seq (
   .ops [⟨some 16, .val (.tmp 7), none⟩,
     ⟨some 6, .val (.tmp 16), none⟩]) (
  .ret)))

theorem c16 : codeOf Try.prog {  } 16 = some (a16, [.tmp 6], 17) := by kernel_rfl

/-- bobbin/bobbinlaw08.MemNumbers$2 -/
def a17 : ACode :=
  .seq (
   .ops [⟨some 4, .val (.val (.lit (.int .i64 0))), none⟩]) (
  .seq (
   .ops [⟨some 8, .val (.tmp 0), none⟩,
     ⟨some 9, .val (.tmp 1), none⟩,
     ⟨some 10, .call (.val (.fn (.func 11) [] [])) [(.tmp 8), (.tmp 9)], none⟩,
     ⟨some 7, .val (.tmp 10), none⟩,
     ⟨some 11, .extract (.tmp 7) 0, none⟩,
     ⟨some 12, .extract (.tmp 7) 1, none⟩,
     ⟨some 5, .val (.tmp 11), none⟩,
     ⟨some 6, .val (.tmp 12), none⟩]) (
  .seq (
   .ops [⟨some 13, .val (.tmp 5), none⟩,
     ⟨some 4, .val (.tmp 13), none⟩]) (
  .ret)))

theorem c17 : codeOf Try.prog {  } 17 = some (a17, [.tmp 4], 14) := by kernel_rfl

/-- bobbin/bobbinlaw08.two -/
def a18 : ACode :=
  .seq (
   .ops [⟨some 6, .val (.val (.lit (.int .i64 0))), none⟩]) (
  .seq (
   .ops [⟨some 10, .val (.tmp 0), none⟩,
     ⟨some 11, .val (.tmp 1), none⟩,
     ⟨some 12, .val (.tmp 2), none⟩,
     ⟨some 13, .call (.val (.fn (.func 13) [] [])) [(.tmp 10), (.tmp 11), (.tmp 12)], none⟩,
     ⟨some 9, .val (.tmp 13), none⟩,
     ⟨some 14, .extract (.tmp 9) 0, none⟩,
     ⟨some 15, .extract (.tmp 9) 1, none⟩,
     ⟨some 7, .val (.tmp 14), none⟩,
     ⟨some 8, .val (.tmp 15), none⟩]) (
  .seq (
   .ops [⟨some 16, .val (.tmp 7), none⟩,
     ⟨some 6, .val (.tmp 16), none⟩]) (
  .ret)))

theorem c18 : codeOf Try.prog {  } 18 = some (a18, [.tmp 6], 17) := by kernel_rfl

/-- bobbin/bobbinlaw08.MemLess$1 -/
def a19 : ACode :=
  .seq (
   .ops [⟨some 2, .val (.val (.lit (.int .i64 0))), none⟩]) (
  .seq (
   .ops [⟨some 6, .val (.tmp 0), none⟩,
     ⟨some 7, .call (.val (.fn (.func 11) [] [])) [(.val (.lit (.int .u8 6))), (.tmp 6)], none⟩,
     ⟨some 5, .val (.tmp 7), none⟩,
     ⟨some 8, .extract (.tmp 5) 0, none⟩,
     ⟨some 9, .extract (.tmp 5) 1, none⟩,
     ⟨some 3, .val (.tmp 8), none⟩,
     ⟨some 4, .val (.tmp 9), none⟩]) (
  .seq (
   .ops [⟨some 10, .val (.tmp 3), none⟩,
     ⟨some 2, .val (.tmp 10), none⟩]) (
  .ret)))

theorem c19 : codeOf Try.prog {  } 19 = some (a19, [.tmp 2], 11) := by kernel_rfl

/-- bobbin/mem.truth -/
def a34 : ACode :=
  .seq (
   .ops [⟨some 2, .val (.val (.lit (.int .i64 0))), none⟩]) (
  .seq (
   .seq (
    .ops [⟨some 3, .val (.tmp 0), none⟩]) (
   .cond (.tmp 3) (
     .seq (
      .ops [⟨some 2, .val (.val (.lit (.int .i64 1))), none⟩]) (
     .ret)) (
     .skip))) (
  .seq (
   .ops [⟨some 2, .val (.val (.lit (.int .i64 0))), none⟩]) (
  .ret)))

theorem c34 : codeOf Try.prog {  } 34 = some (a34, [.tmp 2], 4) := by kernel_rfl

/-- bobbin/mem.operations -/
def a36 : ACode :=
  .seq (
   .ops [⟨some 0, .val (.val (.lit (.map none))), none⟩]) (
  .seq (
   .ops [⟨some 1, .val (.val (.fn (.func 52) [] [])), none⟩]) (
  .seq (
   .ops [⟨some 2, .mkmap, none⟩,
     ⟨none, .mapset 0 (.tmp 2) (.val (.lit (.int .u8 7))) (.val (.fn (.func 54) [] [])), none⟩,
     ⟨none, .mapset 0 (.tmp 2) (.val (.lit (.int .u8 8))) (.val (.fn (.func 55) [] [])), none⟩,
     ⟨none, .mapset 0 (.tmp 2) (.val (.lit (.int .u8 9))) (.val (.fn (.func 56) [] [])), none⟩,
     ⟨none, .mapset 0 (.tmp 2) (.val (.lit (.int .u8 10))) (.val (.fn (.func 57) [] [])), none⟩,
     ⟨none, .mapset 0 (.tmp 2) (.val (.lit (.int .u8 11))) (.val (.fn (.func 58) [] [])), none⟩,
     ⟨some 3, .val (.tmp 1), none⟩,
     ⟨some 4, .call (.tmp 3) [(.val (.fn (.func 59) [] []))], none⟩,
     ⟨none, .mapset 0 (.tmp 2) (.val (.lit (.int .u8 12))) (.tmp 4), none⟩,
     ⟨some 5, .val (.tmp 1), none⟩,
     ⟨some 6, .call (.tmp 5) [(.val (.fn (.func 60) [] []))], none⟩,
     ⟨none, .mapset 0 (.tmp 2) (.val (.lit (.int .u8 13))) (.tmp 6), none⟩,
     ⟨some 7, .val (.tmp 1), none⟩,
     ⟨some 8, .call (.tmp 7) [(.val (.fn (.func 61) [] []))], none⟩,
     ⟨none, .mapset 0 (.tmp 2) (.val (.lit (.int .u8 14))) (.tmp 8), none⟩,
     ⟨some 9, .val (.tmp 1), none⟩,
     ⟨some 10, .call (.tmp 9) [(.val (.fn (.func 62) [] []))], none⟩,
     ⟨none, .mapset 0 (.tmp 2) (.val (.lit (.int .u8 15))) (.tmp 10), none⟩,
     ⟨some 11, .val (.tmp 1), none⟩,
     ⟨some 12, .call (.tmp 11) [(.val (.fn (.func 63) [] []))], none⟩,
     ⟨none, .mapset 0 (.tmp 2) (.val (.lit (.int .u8 16))) (.tmp 12), none⟩,
     ⟨some 13, .val (.tmp 1), none⟩,
     ⟨some 14, .call (.tmp 13) [(.val (.fn (.func 64) [] []))], none⟩,
     ⟨none, .mapset 0 (.tmp 2) (.val (.lit (.int .u8 17))) (.tmp 14), none⟩,
     ⟨some 15, .val (.tmp 2), none⟩,
     ⟨some 0, .val (.tmp 15), none⟩]) (
  .ret)))

theorem c36 : codeOf Try.prog {  } 36 = some (a36, [.tmp 0], 16) := by kernel_rfl

/-- bobbin/mem.operations$1 -/
def a52 : ACode :=
  .seq (
   .ops [⟨some 1, .box true (.tmp 0), none⟩,
     ⟨some 2, .val (.val (.lit .nilFunc)), none⟩]) (
  .seq (
   .ops [⟨some 3, .mkfn (.func 53) [] [(.tmp 1)], none⟩,
     ⟨some 2, .val (.tmp 3), none⟩]) (
  .ret))

theorem c52 : codeOf Try.prog { bz := [1] } 52 = some (a52, [.tmp 2], 4) := by kernel_rfl

/-- bobbin/mem.operations$1$1 -/
def a53 : ACode :=
  .seq (
   .ops [⟨some 5, .val (.val (.lit (.int .i64 0))), none⟩]) (
  .seq (
   .ops [⟨some 6, .load false 1 (.tmp 2), none⟩,
     ⟨some 7, .val (.tmp 0), none⟩,
     ⟨some 8, .val (.tmp 1), none⟩,
     ⟨some 9, .call (.tmp 6) [(.tmp 7), (.tmp 8)], none⟩,
     ⟨some 10, .call (.val (.fn (.func 34) [] [])) [(.tmp 9)], none⟩,
     ⟨some 5, .val (.tmp 10), none⟩]) (
  .ret))

theorem c53 : codeOf Try.prog {  } 53 = some (a53, [.tmp 5], 11) := by kernel_rfl

/-- bobbin/mem.operations$2 -/
def a54 : ACode :=
  .seq (
   .ops [⟨some 4, .val (.val (.lit (.int .i64 0))), none⟩]) (
  .seq (
   .ops [⟨some 5, .val (.tmp 0), none⟩,
     ⟨some 6, .val (.tmp 1), none⟩,
     ⟨some 7, .bin .add .num (.tmp 5) (.tmp 6), none⟩,
     ⟨some 4, .val (.tmp 7), none⟩]) (
  .ret))

theorem c54 : codeOf Try.prog {  } 54 = some (a54, [.tmp 4], 8) := by kernel_rfl

/-- bobbin/mem.operations$3 -/
def a55 : ACode :=
  .seq (
   .ops [⟨some 4, .val (.val (.lit (.int .i64 0))), none⟩]) (
  .seq (
   .ops [⟨some 5, .val (.tmp 0), none⟩,
     ⟨some 6, .val (.tmp 1), none⟩,
     ⟨some 7, .bin .sub .num (.tmp 5) (.tmp 6), none⟩,
     ⟨some 4, .val (.tmp 7), none⟩]) (
  .ret))

theorem c55 : codeOf Try.prog {  } 55 = some (a55, [.tmp 4], 8) := by kernel_rfl

/-- bobbin/mem.operations$4 -/
def a56 : ACode :=
  .seq (
   .ops [⟨some 4, .val (.val (.lit (.int .i64 0))), none⟩]) (
  .seq (
   .ops [⟨some 5, .val (.tmp 0), none⟩,
     ⟨some 6, .val (.tmp 1), none⟩,
     ⟨some 7, .bin .mul .num (.tmp 5) (.tmp 6), none⟩,
     ⟨some 4, .val (.tmp 7), none⟩]) (
  .ret))

theorem c56 : codeOf Try.prog {  } 56 = some (a56, [.tmp 4], 8) := by kernel_rfl

/-- bobbin/mem.operations$5 -/
def a57 : ACode :=
  .seq (
   .ops [⟨some 4, .val (.val (.lit (.int .i64 0))), none⟩]) (
  .seq (
   .ops [⟨some 5, .val (.tmp 0), none⟩,
     ⟨some 6, .val (.tmp 1), none⟩,
     ⟨some 7, .bin .quo .num (.tmp 5) (.tmp 6), none⟩,
     ⟨some 4, .val (.tmp 7), none⟩]) (
  .ret))

theorem c57 : codeOf Try.prog {  } 57 = some (a57, [.tmp 4], 8) := by kernel_rfl

/-- bobbin/mem.operations$6 -/
def a58 : ACode :=
  .seq (
   .ops [⟨some 4, .val (.val (.lit (.int .i64 0))), none⟩]) (
  .seq (
   .ops [⟨some 5, .val (.tmp 0), none⟩,
     ⟨some 6, .val (.tmp 1), none⟩,
     ⟨some 7, .bin .rem .num (.tmp 5) (.tmp 6), none⟩,
     ⟨some 4, .val (.tmp 7), none⟩]) (
  .ret))

theorem c58 : codeOf Try.prog {  } 58 = some (a58, [.tmp 4], 8) := by kernel_rfl

/-- bobbin/mem.operations$7 -/
def a59 : ACode :=
  .seq (
   .ops [⟨some 4, .val (.val (.lit (.bool false))), none⟩]) (
  .seq (
   .ops [⟨some 5, .val (.tmp 0), none⟩,
     ⟨some 6, .val (.tmp 1), none⟩,
     ⟨some 7, .bin .lss .num (.tmp 5) (.tmp 6), none⟩,
     ⟨some 4, .val (.tmp 7), none⟩]) (
  .ret))

theorem c59 : codeOf Try.prog {  } 59 = some (a59, [.tmp 4], 8) := by kernel_rfl

/-- bobbin/mem.operations$8 -/
def a60 : ACode :=
  .seq (
   .ops [⟨some 4, .val (.val (.lit (.bool false))), none⟩]) (
  .seq (
   .ops [⟨some 5, .val (.tmp 0), none⟩,
     ⟨some 6, .val (.tmp 1), none⟩,
     ⟨some 7, .bin .leq .num (.tmp 5) (.tmp 6), none⟩,
     ⟨some 4, .val (.tmp 7), none⟩]) (
  .ret))

theorem c60 : codeOf Try.prog {  } 60 = some (a60, [.tmp 4], 8) := by kernel_rfl

/-- bobbin/mem.operations$9 -/
def a61 : ACode :=
  .seq (
   .ops [⟨some 4, .val (.val (.lit (.bool false))), none⟩]) (
  .seq (
   .ops [⟨some 5, .val (.tmp 0), none⟩,
     ⟨some 6, .val (.tmp 1), none⟩,
     ⟨some 7, .bin .eql .num (.tmp 5) (.tmp 6), none⟩,
     ⟨some 4, .val (.tmp 7), none⟩]) (
  .ret))

theorem c61 : codeOf Try.prog {  } 61 = some (a61, [.tmp 4], 8) := by kernel_rfl

/-- bobbin/mem.operations$10 -/
def a62 : ACode :=
  .seq (
   .ops [⟨some 4, .val (.val (.lit (.bool false))), none⟩]) (
  .seq (
   .ops [⟨some 5, .val (.tmp 0), none⟩,
     ⟨some 6, .val (.tmp 1), none⟩,
     ⟨some 7, .bin .neq .num (.tmp 5) (.tmp 6), none⟩,
     ⟨some 4, .val (.tmp 7), none⟩]) (
  .ret))

theorem c62 : codeOf Try.prog {  } 62 = some (a62, [.tmp 4], 8) := by kernel_rfl

/-- bobbin/mem.operations$11 -/
def a63 : ACode :=
  .seq (
   .ops [⟨some 4, .val (.val (.lit (.bool false))), none⟩]) (
  .seq (
   .ops [⟨some 5, .val (.tmp 0), none⟩,
     ⟨some 6, .bin .neq .num (.tmp 5) (.val (.lit (.int .i64 0))), none⟩,
     ⟨some 7, .val (.tmp 6), none⟩,
     ⟨some 8, .val (.tmp 1), some (7, true)⟩,
     ⟨some 9, .bin .neq .num (.tmp 8) (.val (.lit (.int .i64 0))), some (7, true)⟩,
     ⟨some 10, .pick (.tmp 7) (.tmp 9) (.val (.lit (.bool false))), none⟩,
     ⟨some 4, .val (.tmp 10), none⟩]) (
  .ret))

theorem c63 : codeOf Try.prog {  } 63 = some (a63, [.tmp 4], 11) := by kernel_rfl

/-- bobbin/mem.operations$12 -/
def a64 : ACode :=
  .seq (
   .ops [⟨some 4, .val (.val (.lit (.bool false))), none⟩]) (
  .seq (
   .ops [⟨some 5, .val (.tmp 0), none⟩,
     ⟨some 6, .bin .neq .num (.tmp 5) (.val (.lit (.int .i64 0))), none⟩,
     ⟨some 7, .val (.tmp 6), none⟩,
     ⟨some 8, .val (.tmp 1), some (7, false)⟩,
     ⟨some 9, .bin .neq .num (.tmp 8) (.val (.lit (.int .i64 0))), some (7, false)⟩,
     ⟨some 10, .pick (.tmp 7) (.val (.lit (.bool true))) (.tmp 9), none⟩,
     ⟨some 4, .val (.tmp 10), none⟩]) (
  .ret))

theorem c64 : codeOf Try.prog {  } 64 = some (a64, [.tmp 4], 11) := by kernel_rfl

end Go.Proofs.Ytmgmgeijfkcglaa
