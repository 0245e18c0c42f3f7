/- The abstract code of functions, printed by gen_ir.py out of the program's form in Lean; each is checked against it. -/
import Derived.Test.YtlmjhnlhgmabpaaProg
import Derived.Test.YtlmjhnlhgmabpaaAbs2
set_option linter.unusedVariables false
set_option linter.unusedSimpArgs false
set_option maxRecDepth 100000
namespace Go.Proofs.Ytlmjhnlhgmabpaa
open Go.Abs
-- keys.leaves
-- keys.leaves: args [23]; lent []; rs [.t 2]; loops: L1 keeps [1, 3, 5] [1]
def irKeysLeaves_L1 : IR := (.seq (.kill [1, 3, 5] [1] (.region [
     (.p 6 (.bin .lss) [.t 5, .c (.pv (.int .i64 8))], none)]))
  (.seq (.cond (.t 6)
    .skip
    (.exit 0))
   (.seq (.block 1 (.seq (.kill [1, 3, 5] [1] (.region [
         (.p 7 .id [.t 5], none),
         (.p 4 .id [.t 7], none)]))
      (.kill [1, 3, 4, 5] [1] (.region [
         (.mv 8 3, none),
         (.load 9 (some (32, true)) (some 1) (.t 1), none),
         (.p 10 .id [.t 4], none),
         (.call 11 35 [.t 9, .t 10] [] [] [], none),
         (.bslice 12 23 32 1 [.int .u8 0, .int .u8 0, .int .u8 0, .int .u8 0, .int .u8 0, .int .u8 0, .int .u8 0, .int .u8 0, .int .u8 0, .int .u8 0, .int .u8 0, .int .u8 0, .int .u8 0, .int .u8 0, .int .u8 0, .int .u8 0, .int .u8 0, .int .u8 0, .int .u8 0, .int .u8 0, .int .u8 0, .int .u8 0, .int .u8 0, .int .u8 0, .int .u8 0, .int .u8 0, .int .u8 0, .int .u8 0, .int .u8 0, .int .u8 0, .int .u8 0, .int .u8 0] [(0, .t 11)], none),
         (.app 13 23 32 8 none (.t 12), none),
         (.mv 3 13, none)]))))
    (.kill [1, 3, 5] [1] (.region [
       (.p 14 (.bin .add) [.t 5, .c (.pv (.int .i64 1))], none),
       (.p 5 .id [.t 14], none)])))))
def irKeysLeaves : IR := (.seq (.region [
    (.box 1 (.t 0), none),
    (.p 2 .id [.c (.os 23 32 [])], none)])
 (.seq (.kill [1] [1] (.region [
     (.p 3 .id [.c (.os 23 32 [])], none)]))
  (.seq (.seq (.kill [1, 3] [1] (.region [
       (.p 5 .id [.c (.pv (.int .i64 0))], none)]))
    (.block 0 (.loop (.kill [1, 3, 5] [1] irKeysLeaves_L1))))
   (.seq (.kill [3] [] (.region [
       (.mv 15 3, none),
       (.mv 2 15, none)]))
    .ret))))
theorem okKeysLeaves : okFn Try.prog Try.f20 irKeysLeaves [.t 2] [] 1 = true := by kernel_rfl

-- keys.level.up
-- keys.level.up: args [48]; lent []; rs [.t 2]; loops: L1 keeps [0, 3, 4] []
def irKeysLevelUp_L1 : IR := (.seq (.seq (.kill [0, 3, 4] [] (.region [
      (.p 5 .id [.t 4], none),
      (.p 6 (.bin .add) [.t 5, .c (.pv (.int .i64 1))], none),
      (.p 7 .id [.t 0], none),
      (.p 8 (.len none) [.t 7], none),
      (.p 9 (.bin .lss) [.t 6, .t 8], none)]))
   (.cond (.t 9)
    .skip
    (.exit 0)))
  (.seq (.block 1 (.kill [0, 3, 4] [] (.region [
       (.mv 12 3, none),
       (.p 13 .id [.t 0], none),
       (.p 14 .id [.t 4], none),
       (.p 15 (.indexAddr none 32) [.t 13, .t 14], none),
       (.load 16 (some (32, true)) (some 9999) (.t 15), none),
       (.p 17 .id [.t 0], none),
       (.p 18 .id [.t 4], none),
       (.p 19 (.bin .add) [.t 18, .c (.pv (.int .i64 1))], none),
       (.p 20 (.indexAddr none 32) [.t 17, .t 19], none),
       (.load 21 (some (32, true)) (some 9999) (.t 20), none),
       (.call 22 26 [.t 16, .t 21] [] [] [], none),
       (.bslice 23 23 32 1 [.int .u8 0, .int .u8 0, .int .u8 0, .int .u8 0, .int .u8 0, .int .u8 0, .int .u8 0, .int .u8 0, .int .u8 0, .int .u8 0, .int .u8 0, .int .u8 0, .int .u8 0, .int .u8 0, .int .u8 0, .int .u8 0, .int .u8 0, .int .u8 0, .int .u8 0, .int .u8 0, .int .u8 0, .int .u8 0, .int .u8 0, .int .u8 0, .int .u8 0, .int .u8 0, .int .u8 0, .int .u8 0, .int .u8 0, .int .u8 0, .int .u8 0, .int .u8 0] [(0, .t 22)], none),
       (.app 24 23 32 12 none (.t 23), none),
       (.mv 3 24, none)])))
   (.kill [0, 3, 4] [] (.region [
      (.p 10 .id [.t 4], none),
      (.p 11 (.bin .add) [.t 10, .c (.pv (.int .i64 2))], none),
      (.p 4 .id [.t 11], none)]))))
def irKeysLevelUp : IR := (.seq (.region [
    (.p 2 .id [.c (.os 23 32 [])], none)])
 (.seq (.kill [0] [] (.region [
     (.p 3 .id [.c (.os 23 32 [])], none)]))
  (.seq (.seq (.kill [0, 3] [] (.region [
       (.p 4 .id [.c (.pv (.int .i64 0))], none)]))
    (.block 0 (.loop (.kill [0, 3, 4] [] irKeysLevelUp_L1))))
   (.seq (.kill [3] [] (.region [
       (.mv 25 3, none),
       (.mv 2 25, none)]))
    .ret))))
theorem okKeysLevelUp : okFn Try.prog Try.f21 irKeysLevelUp [.t 2] [] 1 = true := by kernel_rfl

-- keys.Root
-- keys.Root: args [23]; lent []; rs [.cell 2 (some (32, true))]; loops: L1 keeps [2, 3, 6] [2]
def irKeysRoot_L1 : IR := (.seq (.kill [2, 3, 6] [2] (.region [
     (.p 7 (.bin .lss) [.t 6, .c (.pv (.int .i64 3))], none)]))
  (.seq (.cond (.t 7)
    .skip
    (.exit 0))
   (.seq (.block 1 (.kill [2, 3, 6] [2] (.region [
        (.mv 8 3, none),
        (.call 9 21 [.t 8] [] [] [], none),
        (.mv 3 9, none)])))
    (.kill [2, 3, 6] [2] (.region [
       (.p 10 (.bin .add) [.t 6, .c (.pv (.int .i64 1))], none),
       (.p 6 .id [.t 10], none)])))))
def irKeysRoot : IR := (.seq (.region [
    (.box 1 (.t 0), none),
    (.alloc 2 (.pagg (List.replicate 32 (.int .u8 0))), none)])
 (.seq (.kill [1, 2] [1, 2] (.region [
     (.load 4 (some (32, true)) (some 1) (.t 1), none),
     (.call 5 20 [.t 4] [] [] [], none),
     (.mv 3 5, none)]))
  (.seq (.seq (.kill [2, 3] [2] (.region [
       (.p 6 .id [.c (.pv (.int .i64 0))], none)]))
    (.block 0 (.loop (.kill [2, 3, 6] [2] irKeysRoot_L1))))
   (.seq (.kill [2, 3] [2] (.region [
       (.mv 11 3, none),
       (.p 12 (.indexAddr none 32) [.t 11, .c (.pv (.int .i64 0))], none),
       (.load 13 (some (32, true)) (some 9999) (.t 12), none),
       (.store (some (32, true)) (some 2) (.t 2) (.t 13), none)]))
    .ret))))
theorem okKeysRoot : okFn Try.prog Try.f11 irKeysRoot [.cell 2 (some (32, true))] [] 1 = true := by kernel_rfl

-- keys.Sign
-- keys.Sign: args [23, 3, 33]; lent []; rs [.t 6, .t 7]; loops: L1 keeps [1, 8, 9, 28] []
def irKeysSign_L1 : IR := (.seq (.kill [1, 8, 9, 28] [] (.region [
     (.p 29 (.bin .lss) [.t 28, .c (.pv (.int .i64 3))], none)]))
  (.seq (.cond (.t 29)
    .skip
    (.exit 0))
   (.seq (.block 1 (.seq (.kill [1, 8, 9, 28] [] (.region [
         (.p 30 .id [.t 28], none),
         (.p 10 .id [.t 30], none)]))
      (.seq (.kill [1, 8, 9, 10, 28] [] (.region [
          (.p 31 .id [.t 9], none),
          (.p 32 .id [.t 1], none),
          (.p 33 .id [.t 10], none),
          (.p 34 (.bin .shr) [.t 32, .t 33], none),
          (.p 35 (.bin .xor) [.t 34, .c (.pv (.int .i64 1))], none),
          (.p 36 (.indexAddr none 32) [.t 31, .t 35], none),
          (.load 37 (some (32, true)) (some 9999) (.t 36), none),
          (.alloc 11 (.pagg (List.replicate 32 (.int .u8 0))), none),
          (.store (some (32, true)) (some 11) (.t 11) (.t 37), none)]))
       (.seq (.kill [1, 8, 9, 11, 28] [11] (.region [
           (.mv 38 8, none),
           (.p 39 (.slice (some 32) 1 false false) [.t 11], none),
           (.app 40 5 1 38 (some 11) (.t 39), none),
           (.mv 8 40, none)]))
        (.kill [1, 8, 9, 28] [] (.region [
           (.mv 41 9, none),
           (.call 42 21 [.t 41] [] [] [], none),
           (.mv 9 42, none)]))))))
    (.kill [1, 8, 9, 28] [] (.region [
       (.p 43 (.bin .add) [.t 28, .c (.pv (.int .i64 1))], none),
       (.p 28 .id [.t 43], none)])))))
def irKeysSign : IR := (.seq (.region [
    (.box 3 (.t 0), none),
    (.p 6 .id [.c (.os 5 1 [])], none),
    (.p 7 .id [.c (.pv (.int .i64 0))], none)])
 (.seq (.seq (.kill [1, 2, 3] [3] (.region [
      (.p 12 .id [.t 1], none),
      (.p 13 (.bin .lss) [.t 12, .c (.pv (.int .i64 0))], none),
      (.p 14 .id [.t 13], none),
      (.p 15 .id [.t 1], some (14, false)),
      (.p 16 (.bin .geq) [.t 15, .c (.pv (.int .i64 8))], some (14, false)),
      (.p 17 .pick [.t 14, .c (.pv (.bool true)), .t 16], none)]))
   (.cond (.t 17)
    (.seq (.kill [] [] (.region [
        (.p 6 .id [.c (.os 5 1 [])], none),
        (.p 7 .id [.c (.pv (.int .i64 3))], none)]))
     .ret)
    .skip))
  (.seq (.kill [1, 2, 3] [3] (.region [
      (.p 18 .id [.t 1], none),
      (.p 19 (.conv .u8) [.t 18], none),
      (.bslice 20 5 1 1 [.int .u8 0] [(0, .t 19)], none),
      (.load 21 (some (32, true)) (some 3) (.t 3), none),
      (.p 22 .id [.t 1], none),
      (.mv 23 2, none),
      (.call 24 32 [.t 21, .t 22, .t 23] [] [] [], none),
      (.app 25 5 1 20 none (.t 24), none),
      (.mv 8 25, none)]))
   (.seq (.kill [1, 3, 8] [3] (.region [
       (.load 26 (some (32, true)) (some 3) (.t 3), none),
       (.call 27 20 [.t 26] [] [] [], none),
       (.mv 9 27, none)]))
    (.seq (.seq (.kill [1, 8, 9] [] (.region [
         (.p 28 .id [.c (.pv (.int .i64 0))], none)]))
      (.block 0 (.loop (.kill [1, 8, 9, 28] [] irKeysSign_L1))))
     (.seq (.kill [8] [] (.region [
         (.mv 44 8, none),
         (.mv 6 44, none),
         (.p 7 .id [.c (.pv (.int .i64 0))], none)]))
      .ret))))))
theorem okKeysSign : okFn Try.prog Try.f18 irKeysSign [.t 6, .t 7] [] 3 = true := by kernel_rfl

-- keys.Verify
-- keys.Verify: args [23, 33, 33]; lent []; rs [.t 6, .t 7]; loops: L1 keeps [2, 3, 8, 9, 34] [3, 9]
def irKeysVerify_L1 : IR := (.seq (.kill [2, 3, 8, 9, 34] [3, 9] (.region [
     (.p 35 (.bin .lss) [.t 34, .c (.pv (.int .i64 3))], none)]))
  (.seq (.cond (.t 35)
    .skip
    (.exit 0))
   (.seq (.block 1 (.seq (.kill [2, 3, 8, 9, 34] [3, 9] (.region [
         (.p 36 .id [.t 34], none),
         (.p 11 .id [.t 36], none)]))
      (.seq (.kill [2, 3, 8, 9, 11, 34] [3, 9] (.region [
          (.p 37 .id [.t 11], none),
          (.p 38 (.bin .mul) [.c (.pv (.int .i64 32)), .t 37], none),
          (.p 39 (.bin .add) [.c (.pv (.int .i64 561)), .t 38], none),
          (.p 12 .id [.t 39], none)]))
       (.seq (.kill [2, 3, 8, 9, 11, 12, 34] [3, 9] (.region [
           (.p 40 .id [.t 2], none),
           (.p 41 .id [.t 12], none),
           (.p 42 .id [.t 12], none),
           (.p 43 (.bin .add) [.t 42, .c (.pv (.int .i64 32))], none),
           (.p 44 (.slice none 1 true true) [.t 40, .t 41, .t 43], none),
           (.p 45 (.s2ap 32) [.t 44], none),
           (.load 46 (some (32, true)) (some 9999) (.t 45), none),
           (.alloc 13 (.pagg (List.replicate 32 (.int .u8 0))), none),
           (.store (some (32, true)) (some 13) (.t 13) (.t 46), none)]))
        (.seq (.kill [2, 3, 8, 9, 11, 13, 34] [3, 9, 13] (.region [
            (.p 47 .id [.t 8], none),
            (.p 48 .id [.t 11], none),
            (.p 49 (.bin .shr) [.t 47, .t 48], none),
            (.p 50 (.bin .and) [.t 49, .c (.pv (.int .i64 1))], none),
            (.p 51 (.bin .eql) [.t 50, .c (.pv (.int .i64 0))], none)]))
         (.cond (.t 51)
          (.kill [2, 3, 8, 9, 13, 34] [3, 9, 13] (.region [
             (.load 52 (some (32, true)) (some 9) (.t 9), none),
             (.load 53 (some (32, true)) (some 13) (.t 13), none),
             (.call 54 26 [.t 52, .t 53] [] [] [], none),
             (.store (some (32, true)) (some 9) (.t 9) (.t 54), none)]))
          (.kill [2, 3, 8, 9, 13, 34] [3, 9, 13] (.region [
             (.load 55 (some (32, true)) (some 13) (.t 13), none),
             (.load 56 (some (32, true)) (some 9) (.t 9), none),
             (.call 57 26 [.t 55, .t 56] [] [] [], none),
             (.store (some (32, true)) (some 9) (.t 9) (.t 57), none)]))))))))
    (.kill [2, 3, 8, 9, 34] [3, 9] (.region [
       (.p 58 (.bin .add) [.t 34, .c (.pv (.int .i64 1))], none),
       (.p 34 .id [.t 58], none)])))))
def irKeysVerify : IR := (.seq (.region [
    (.box 3 (.t 0), none),
    (.p 6 .id [.c (.pv (.int .i64 0))], none),
    (.p 7 .id [.c (.pv (.int .i64 0))], none)])
 (.seq (.seq (.kill [1, 2, 3] [3] (.region [
      (.p 14 .id [.t 2], none),
      (.p 15 (.len none) [.t 14], none),
      (.p 16 (.bin .neq) [.t 15, .c (.pv (.int .i64 657))], none),
      (.p 17 .id [.t 16], none),
      (.p 18 .id [.t 2], some (17, false)),
      (.p 19 (.indexAddr none 1) [.t 18, .c (.pv (.int .i64 0))], some (17, false)),
      (.load 20 none (some 9999) (.t 19), some (17, false)),
      (.p 21 (.bin .geq) [.t 20, .c (.pv (.int .u8 8))], some (17, false)),
      (.p 22 .pick [.t 17, .c (.pv (.bool true)), .t 21], none)]))
   (.cond (.t 22)
    (.seq (.kill [] [] (.region [
        (.p 6 .id [.c (.pv (.int .i64 0))], none),
        (.p 7 .id [.c (.pv (.int .i64 2))], none)]))
     .ret)
    .skip))
  (.seq (.kill [1, 2, 3] [3] (.region [
      (.p 23 .id [.t 2], none),
      (.p 24 (.indexAddr none 1) [.t 23, .c (.pv (.int .i64 0))], none),
      (.load 25 none (some 9999) (.t 24), none),
      (.p 26 (.conv .i64) [.t 25], none),
      (.p 8 .id [.t 26], none)]))
   (.seq (.kill [1, 2, 3, 8] [3] (.region [
       (.mv 28 1, none),
       (.p 29 .id [.t 2], none),
       (.p 30 (.slice none 1 true true) [.t 29, .c (.pv (.int .i64 1)), .c (.pv (.int .i64 561))], none),
       (.call 31 25 [.t 28, .t 30] [] [] [], none),
       (.p 27 .id [.t 31], none),
       (.p 32 (.ext 0) [.t 27], none),
       (.p 33 (.ext 1) [.t 27], none),
       (.alloc 9 (.pagg (List.replicate 32 (.int .u8 0))), none),
       (.store (some (32, true)) (some 9) (.t 9) (.t 32), none),
       (.p 10 .id [.t 33], none)]))
    (.seq (.seq (.kill [2, 3, 8, 9] [3, 9] (.region [
         (.p 34 .id [.c (.pv (.int .i64 0))], none)]))
      (.block 0 (.loop (.kill [2, 3, 8, 9, 34] [3, 9] irKeysVerify_L1))))
     (.seq (.seq (.kill [3, 8, 9] [3, 9] (.region [
          (.load 59 (some (32, true)) (some 9) (.t 9), none),
          (.load 60 (some (32, true)) (some 3) (.t 3), none),
          (.p 61 (.aeq true 32 .u8) [.t 59, .t 60], none)]))
       (.cond (.t 61)
        (.seq (.kill [] [] (.region [
            (.p 6 .id [.c (.pv (.int .i64 0))], none),
            (.p 7 .id [.c (.pv (.int .i64 5))], none)]))
         .ret)
        .skip))
      (.seq (.kill [8] [] (.region [
          (.p 62 .id [.t 8], none),
          (.p 6 .id [.t 62], none),
          (.p 7 .id [.c (.pv (.int .i64 0))], none)]))
       .ret)))))))
theorem okKeysVerify : okFn Try.prog Try.f14 irKeysVerify [.t 6, .t 7] [] 3 = true := by kernel_rfl

-- keys.Seed
-- keys.Seed: args [23, 3]; lent []; rs [.cell 4 (some (32, true))]; loops: 
def irKeysSeed : IR := (.seq (.region [
    (.box 2 (.t 0), none),
    (.alloc 4 (.pagg (List.replicate 32 (.int .u8 0))), none)])
 (.seq (.kill [1, 2, 4] [2, 4] (.region [
     (.load 5 (some (32, true)) (some 2) (.t 2), none),
     (.p 6 .id [.t 1], none),
     (.call 7 19 [.t 5, .t 6, .c (.pv (.int .i64 2))] [] [] [], none),
     (.p 8 (.s2ap 32) [.t 7], none),
     (.load 9 (some (32, true)) (some 9999) (.t 8), none),
     (.store (some (32, true)) (some 4) (.t 4) (.t 9), none)]))
  .ret))
theorem okKeysSeed : okFn Try.prog Try.f9 irKeysSeed [.cell 4 (some (32, true))] [] 2 = true := by kernel_rfl

-- keys.Table
-- keys.Table: args [23]; lent []; rs [.cell 2 (some (2, true))]; loops: L1 keeps [1, 2, 3, 6] [1, 2, 3]; L2 keeps [1, 2, 3, 18] [1, 2, 3]
def irKeysTable_L1 : IR := (.seq (.kill [1, 2, 3, 6] [1, 2, 3] (.region [
     (.p 7 (.bin .lss) [.t 6, .c (.pv (.int .i64 16))], none)]))
  (.seq (.cond (.t 7)
    .skip
    (.exit 0))
   (.seq (.block 1 (.seq (.kill [1, 2, 3, 6] [1, 2, 3] (.region [
         (.p 8 .id [.t 6], none),
         (.p 4 .id [.t 8], none)]))
      (.kill [1, 2, 3, 4, 6] [1, 2, 3] (.region [
         (.p 9 (.fieldAddr 0) [.t 3], none),
         (.loadmv 10 (some 3) (.t 9), none),
         (.load 11 (some (32, true)) (some 1) (.t 1), none),
         (.p 12 .id [.t 4], none),
         (.call 13 19 [.t 11, .t 12, .c (.pv (.int .i64 1))] [] [] [], none),
         (.bslice 14 33 1 1 [.sl 1 []] [(0, .t 13)], none),
         (.app 15 33 1 10 none (.t 14), none),
         (.p 16 (.fieldAddr 0) [.t 3], none),
         (.storemv (some 3) (.t 16) 15, none)]))))
    (.kill [1, 2, 3, 6] [1, 2, 3] (.region [
       (.p 17 (.bin .add) [.t 6, .c (.pv (.int .i64 1))], none),
       (.p 6 .id [.t 17], none)])))))
def irKeysTable_L2 : IR := (.seq (.kill [1, 2, 3, 18] [1, 2, 3] (.region [
     (.p 19 (.bin .lss) [.t 18, .c (.pv (.int .i64 6))], none)]))
  (.seq (.cond (.t 19)
    .skip
    (.exit 2))
   (.seq (.block 3 (.seq (.kill [1, 2, 3, 18] [1, 2, 3] (.region [
         (.p 20 .id [.t 18], none),
         (.p 5 .id [.t 20], none)]))
      (.kill [1, 2, 3, 5, 18] [1, 2, 3] (.region [
         (.p 21 (.fieldAddr 1) [.t 3], none),
         (.loadmv 22 (some 3) (.t 21), none),
         (.load 23 (some (32, true)) (some 1) (.t 1), none),
         (.p 24 .id [.t 5], none),
         (.call 25 9 [.t 23, .t 24] [] [] [], none),
         (.call 26 11 [.t 25] [] [] [], none),
         (.bslice 27 23 32 1 [.int .u8 0, .int .u8 0, .int .u8 0, .int .u8 0, .int .u8 0, .int .u8 0, .int .u8 0, .int .u8 0, .int .u8 0, .int .u8 0, .int .u8 0, .int .u8 0, .int .u8 0, .int .u8 0, .int .u8 0, .int .u8 0, .int .u8 0, .int .u8 0, .int .u8 0, .int .u8 0, .int .u8 0, .int .u8 0, .int .u8 0, .int .u8 0, .int .u8 0, .int .u8 0, .int .u8 0, .int .u8 0, .int .u8 0, .int .u8 0, .int .u8 0, .int .u8 0] [(0, .t 26)], none),
         (.app 28 23 32 22 none (.t 27), none),
         (.p 29 (.fieldAddr 1) [.t 3], none),
         (.storemv (some 3) (.t 29) 28, none)]))))
    (.kill [1, 2, 3, 18] [1, 2, 3] (.region [
       (.p 30 (.bin .add) [.t 18, .c (.pv (.int .i64 1))], none),
       (.p 18 .id [.t 30], none)])))))
def irKeysTable : IR := (.seq (.region [
    (.box 1 (.t 0), none),
    (.alloc 2 (.agg [.os 33 1 [], .os 23 32 []]), none)])
 (.seq (.kill [1, 2] [1, 2] (.region [
     (.alloc 3 (.agg [.os 33 1 [], .os 23 32 []]), none)]))
  (.seq (.seq (.kill [1, 2, 3] [1, 2, 3] (.region [
       (.p 6 .id [.c (.pv (.int .i64 0))], none)]))
    (.block 0 (.loop (.kill [1, 2, 3, 6] [1, 2, 3] irKeysTable_L1))))
   (.seq (.seq (.kill [1, 2, 3] [1, 2, 3] (.region [
        (.p 18 .id [.c (.pv (.int .i64 0))], none)]))
     (.block 2 (.loop (.kill [1, 2, 3, 18] [1, 2, 3] irKeysTable_L2))))
    (.seq (.kill [2, 3] [2, 3] (.region [
        (.load 31 (some (2, true)) (some 3) (.t 3), none),
        (.store (some (2, true)) (some 2) (.t 2) (.t 31), none)]))
     .ret)))))
theorem okKeysTable : okFn Try.prog Try.f8 irKeysTable [.cell 2 (some (2, true))] [] 1 = true := by kernel_rfl

-- consistoryref05.Tree
-- consistoryref05.Tree: args [23]; lent []; rs [.t 2]; loops: L1 keeps [1, 3, 4] [1]; L2 keeps [3, 5] []
def irRef05Tree_L1 : IR := (.seq (.seq (.kill [1, 3, 4] [1] (.region [
      (.p 6 .id [.t 4], none),
      (.p 7 (.bin .lss) [.t 6, .c (.pv (.int .i64 8))], none)]))
   (.cond (.t 7)
    .skip
    (.exit 0)))
  (.seq (.block 1 (.kill [1, 3, 4] [1] (.region [
       (.mv 10 3, none),
       (.load 11 (some (32, true)) (some 1) (.t 1), none),
       (.p 12 .id [.t 4], none),
       (.call 13 31 [.t 11, .t 12] [] [] [], none),
       (.bslice 14 23 32 1 [.int .u8 0, .int .u8 0, .int .u8 0, .int .u8 0, .int .u8 0, .int .u8 0, .int .u8 0, .int .u8 0, .int .u8 0, .int .u8 0, .int .u8 0, .int .u8 0, .int .u8 0, .int .u8 0, .int .u8 0, .int .u8 0, .int .u8 0, .int .u8 0, .int .u8 0, .int .u8 0, .int .u8 0, .int .u8 0, .int .u8 0, .int .u8 0, .int .u8 0, .int .u8 0, .int .u8 0, .int .u8 0, .int .u8 0, .int .u8 0, .int .u8 0, .int .u8 0] [(0, .t 13)], none),
       (.app 15 23 32 10 none (.t 14), none),
       (.mv 3 15, none)])))
   (.kill [1, 3, 4] [1] (.region [
      (.p 8 .id [.t 4], none),
      (.p 9 (.bin .add) [.t 8, .c (.pv (.int .i64 1))], none),
      (.p 4 .id [.t 9], none)]))))
def irRef05Tree_L2 : IR := (.seq (.seq (.kill [3, 5] [] (.region [
      (.p 16 .id [.t 5], none),
      (.p 17 (.bin .lss) [.t 16, .c (.pv (.int .i64 14))], none)]))
   (.cond (.t 17)
    .skip
    (.exit 2)))
  (.seq (.block 3 (.kill [3, 5] [] (.region [
       (.mv 20 3, none),
       (.p 21 .id [.t 3], none),
       (.p 22 .id [.t 5], none),
       (.p 23 (.indexAddr none 32) [.t 21, .t 22], none),
       (.load 24 (some (32, true)) (some 9999) (.t 23), none),
       (.p 25 .id [.t 3], none),
       (.p 26 .id [.t 5], none),
       (.p 27 (.bin .add) [.t 26, .c (.pv (.int .i64 1))], none),
       (.p 28 (.indexAddr none 32) [.t 25, .t 27], none),
       (.load 29 (some (32, true)) (some 9999) (.t 28), none),
       (.call 30 28 [.t 24, .t 29] [] [] [], none),
       (.bslice 31 23 32 1 [.int .u8 0, .int .u8 0, .int .u8 0, .int .u8 0, .int .u8 0, .int .u8 0, .int .u8 0, .int .u8 0, .int .u8 0, .int .u8 0, .int .u8 0, .int .u8 0, .int .u8 0, .int .u8 0, .int .u8 0, .int .u8 0, .int .u8 0, .int .u8 0, .int .u8 0, .int .u8 0, .int .u8 0, .int .u8 0, .int .u8 0, .int .u8 0, .int .u8 0, .int .u8 0, .int .u8 0, .int .u8 0, .int .u8 0, .int .u8 0, .int .u8 0, .int .u8 0] [(0, .t 30)], none),
       (.app 32 23 32 20 none (.t 31), none),
       (.mv 3 32, none)])))
   (.kill [3, 5] [] (.region [
      (.p 18 .id [.t 5], none),
      (.p 19 (.bin .add) [.t 18, .c (.pv (.int .i64 2))], none),
      (.p 5 .id [.t 19], none)]))))
def irRef05Tree : IR := (.seq (.region [
    (.box 1 (.t 0), none),
    (.p 2 .id [.c (.os 23 32 [])], none)])
 (.seq (.kill [1] [1] (.region [
     (.p 3 .id [.c (.os 23 32 [])], none)]))
  (.seq (.seq (.kill [1, 3] [1] (.region [
       (.p 4 .id [.c (.pv (.int .i64 0))], none)]))
    (.block 0 (.loop (.kill [1, 3, 4] [1] irRef05Tree_L1))))
   (.seq (.seq (.kill [3] [] (.region [
        (.p 5 .id [.c (.pv (.int .i64 0))], none)]))
     (.block 2 (.loop (.kill [3, 5] [] irRef05Tree_L2))))
    (.seq (.kill [3] [] (.region [
        (.mv 33 3, none),
        (.mv 2 33, none)]))
     .ret)))))
theorem okRef05Tree : okFn Try.prog Try.f17 irRef05Tree [.t 2] [] 1 = true := by kernel_rfl

-- consistoryref05.Beside
-- consistoryref05.Beside: args [3]; lent []; rs [.t 2]; loops: L1 keeps [3, 4, 5, 6, 7] []
def irRef05Beside_L1 : IR := (.seq (.seq (.kill [3, 4, 5, 6, 7] [] (.region [
      (.p 10 .id [.t 7], none),
      (.p 11 (.bin .lss) [.t 10, .c (.pv (.int .i64 3))], none)]))
   (.cond (.t 11)
    .skip
    (.exit 0)))
  (.seq (.block 1 (.seq (.kill [3, 4, 5, 6, 7] [] (.region [
        (.p 14 .id [.t 4], none),
        (.p 15 .id [.t 5], none),
        (.p 16 (.bin .sub) [.t 14, .t 15], none),
        (.p 8 .id [.t 16], none)]))
     (.seq (.seq (.kill [3, 4, 5, 6, 7, 8] [] (.region [
          (.p 17 .id [.t 8], none),
          (.p 18 (.bin .rem) [.t 17, .c (.pv (.int .i64 2))], none),
          (.p 19 (.bin .eql) [.t 18, .c (.pv (.int .i64 0))], none)]))
       (.cond (.t 19)
        (.kill [3, 4, 5, 6, 7, 8] [] (.region [
           (.mv 20 3, none),
           (.p 21 .id [.t 4], none),
           (.p 22 (.bin .add) [.t 21, .c (.pv (.int .i64 1))], none),
           (.bslice 23 3 1 1 [.int .i64 0] [(0, .t 22)], none),
           (.app 24 3 1 20 none (.t 23), none),
           (.mv 3 24, none)]))
        (.kill [3, 4, 5, 6, 7, 8] [] (.region [
           (.mv 25 3, none),
           (.p 26 .id [.t 4], none),
           (.p 27 (.bin .sub) [.t 26, .c (.pv (.int .i64 1))], none),
           (.bslice 28 3 1 1 [.int .i64 0] [(0, .t 27)], none),
           (.app 29 3 1 25 none (.t 28), none),
           (.mv 3 29, none)]))))
      (.seq (.kill [3, 5, 6, 7, 8] [] (.region [
          (.p 30 .id [.t 5], none),
          (.p 31 .id [.t 6], none),
          (.p 32 (.bin .add) [.t 30, .t 31], none),
          (.p 5 .id [.t 32], none)]))
       (.seq (.kill [3, 5, 6, 7, 8] [] (.region [
           (.p 33 .id [.t 5], none),
           (.p 34 .id [.t 8], none),
           (.p 35 (.bin .quo) [.t 34, .c (.pv (.int .i64 2))], none),
           (.p 36 (.bin .add) [.t 33, .t 35], none),
           (.p 4 .id [.t 36], none)]))
        (.kill [3, 4, 5, 6, 7] [] (.region [
           (.p 37 .id [.t 6], none),
           (.p 38 (.bin .quo) [.t 37, .c (.pv (.int .i64 2))], none),
           (.p 6 .id [.t 38], none)])))))))
   (.kill [3, 4, 5, 6, 7] [] (.region [
      (.p 12 .id [.t 7], none),
      (.p 13 (.bin .add) [.t 12, .c (.pv (.int .i64 1))], none),
      (.p 7 .id [.t 13], none)]))))
def irRef05Beside : IR := (.seq (.region [
    (.p 2 .id [.c (.os 3 1 [])], none)])
 (.seq (.kill [0] [] (.region [
     (.p 3 .id [.c (.os 3 1 [])], none)]))
  (.seq (.kill [0, 3] [] (.region [
      (.p 9 .id [.t 0], none),
      (.p 4 .id [.t 9], none)]))
   (.seq (.kill [3, 4] [] (.region [
       (.p 5 .id [.c (.pv (.int .i64 0))], none)]))
    (.seq (.kill [3, 4, 5] [] (.region [
        (.p 6 .id [.c (.pv (.int .i64 8))], none)]))
     (.seq (.seq (.kill [3, 4, 5, 6] [] (.region [
          (.p 7 .id [.c (.pv (.int .i64 0))], none)]))
       (.block 0 (.loop (.kill [3, 4, 5, 6, 7] [] irRef05Beside_L1))))
      (.seq (.kill [3] [] (.region [
          (.mv 39 3, none),
          (.mv 2 39, none)]))
       .ret)))))))
theorem okRef05Beside : okFn Try.prog Try.f30 irRef05Beside [.t 2] [] 1 = true := by kernel_rfl

-- consistoryref05.Sign
-- consistoryref05.Sign: args [23, 3, 33]; lent []; rs [.t 6]; loops: L1 keeps [7, 8, 9, 10] []
def irRef05Sign_L1 : IR := (.seq (.seq (.kill [7, 8, 9, 10] [] (.region [
      (.p 26 .id [.t 10], none),
      (.p 27 (.bin .lss) [.t 26, .c (.pv (.int .i64 3))], none)]))
   (.cond (.t 27)
    .skip
    (.exit 0)))
  (.seq (.block 1 (.kill [7, 8, 9, 10] [] (.region [
       (.mv 30 7, none),
       (.p 31 .id [.t 8], none),
       (.p 32 .id [.t 9], none),
       (.p 33 .id [.t 10], none),
       (.p 34 (.indexAddr none 1) [.t 32, .t 33], none),
       (.load 35 none (some 9999) (.t 34), none),
       (.p 36 (.indexAddr none 32) [.t 31, .t 35], none),
       (.load 37 (some (32, true)) (some 9999) (.t 36), none),
       (.call 38 22 [.t 37] [] [] [], none),
       (.app 39 5 1 30 none (.t 38), none),
       (.mv 7 39, none)])))
   (.kill [7, 8, 9, 10] [] (.region [
      (.p 28 .id [.t 10], none),
      (.p 29 (.bin .add) [.t 28, .c (.pv (.int .i64 1))], none),
      (.p 10 .id [.t 29], none)]))))
def irRef05Sign : IR := (.seq (.region [
    (.box 3 (.t 0), none),
    (.p 6 .id [.c (.os 5 1 [])], none)])
 (.seq (.kill [1, 2, 3] [3] (.region [
     (.p 7 .id [.c (.os 5 1 [])], none)]))
  (.seq (.kill [1, 2, 3, 7] [3] (.region [
      (.mv 11 7, none),
      (.p 12 .id [.t 1], none),
      (.p 13 (.conv .u8) [.t 12], none),
      (.bslice 14 5 1 1 [.int .u8 0] [(0, .t 13)], none),
      (.app 15 5 1 11 none (.t 14), none),
      (.mv 7 15, none)]))
   (.seq (.kill [1, 2, 3, 7] [3] (.region [
       (.mv 16 7, none),
       (.load 17 (some (32, true)) (some 3) (.t 3), none),
       (.p 18 .id [.t 1], none),
       (.mv 19 2, none),
       (.call 20 29 [.t 17, .t 18, .t 19] [] [] [], none),
       (.app 21 5 1 16 none (.t 20), none),
       (.mv 7 21, none)]))
    (.seq (.kill [1, 3, 7] [3] (.region [
        (.load 22 (some (32, true)) (some 3) (.t 3), none),
        (.call 23 17 [.t 22] [] [] [], none),
        (.mv 8 23, none)]))
     (.seq (.kill [1, 7, 8] [] (.region [
         (.p 24 .id [.t 1], none),
         (.call 25 30 [.t 24] [] [] [], none),
         (.mv 9 25, none)]))
      (.seq (.seq (.kill [7, 8, 9] [] (.region [
           (.p 10 .id [.c (.pv (.int .i64 0))], none)]))
        (.block 0 (.loop (.kill [7, 8, 9, 10] [] irRef05Sign_L1))))
       (.seq (.kill [7] [] (.region [
           (.mv 40 7, none),
           (.mv 6 40, none)]))
        .ret))))))))
theorem okRef05Sign : okFn Try.prog Try.f16 irRef05Sign [.t 6] [] 3 = true := by kernel_rfl

-- consistoryref05.Verify
-- consistoryref05.Verify: args [23, 33, 33]; lent []; rs [.t 6, .t 7]; loops: L2 keeps [2, 3, 8, 9, 11, 12, 13, 14] [3, 9, 13]; L1 keeps [2, 3, 8, 9, 11, 12] [3, 9]
def irRef05Verify_L2 : IR := (.seq (.seq (.kill [2, 3, 8, 9, 11, 12, 13, 14] [3, 9, 13] (.region [
      (.p 41 .id [.t 14], none),
      (.p 42 (.bin .lss) [.t 41, .c (.pv (.int .i64 32))], none)]))
   (.cond (.t 42)
    .skip
    (.exit 2)))
  (.seq (.block 3 (.kill [2, 3, 8, 9, 11, 12, 13, 14] [3, 9, 13] (.region [
       (.p 45 .id [.t 14], none),
       (.p 46 .id [.t 2], none),
       (.p 47 .id [.t 12], none),
       (.p 48 (.bin .mul) [.c (.pv (.int .i64 32)), .t 47], none),
       (.p 49 (.bin .add) [.c (.pv (.int .i64 561)), .t 48], none),
       (.p 50 .id [.t 14], none),
       (.p 51 (.bin .add) [.t 49, .t 50], none),
       (.p 52 (.indexAddr none 1) [.t 46, .t 51], none),
       (.load 53 none (some 9999) (.t 52), none),
       (.p 54 (.indexAddr (some 32) 1) [.t 13, .t 45], none),
       (.store none (some 13) (.t 54) (.t 53), none)])))
   (.kill [2, 3, 8, 9, 11, 12, 13, 14] [3, 9, 13] (.region [
      (.p 43 .id [.t 14], none),
      (.p 44 (.bin .add) [.t 43, .c (.pv (.int .i64 1))], none),
      (.p 14 .id [.t 44], none)]))))
def irRef05Verify_L1 : IR := (.seq (.seq (.kill [2, 3, 8, 9, 11, 12] [3, 9] (.region [
      (.p 36 .id [.t 12], none),
      (.p 37 (.bin .lss) [.t 36, .c (.pv (.int .i64 3))], none)]))
   (.cond (.t 37)
    .skip
    (.exit 0)))
  (.seq (.block 1 (.seq (.kill [2, 3, 8, 9, 11, 12] [3, 9] (.region [
        (.build 40 (.pagg (List.replicate 32 (.int .u8 0))) [], none),
        (.alloc 13 (.pagg (List.replicate 32 (.int .u8 0))), none),
        (.store (some (32, true)) (some 13) (.t 13) (.t 40), none)]))
     (.seq (.seq (.kill [2, 3, 8, 9, 11, 12, 13] [3, 9, 13] (.region [
          (.p 14 .id [.c (.pv (.int .i64 0))], none)]))
       (.block 2 (.loop (.kill [2, 3, 8, 9, 11, 12, 13, 14] [3, 9, 13] irRef05Verify_L2))))
      (.seq (.seq (.kill [2, 3, 8, 9, 11, 12, 13] [3, 9, 13] (.region [
           (.p 55 .id [.t 11], none),
           (.p 56 (.bin .rem) [.t 55, .c (.pv (.int .i64 2))], none),
           (.p 57 (.bin .eql) [.t 56, .c (.pv (.int .i64 0))], none)]))
        (.cond (.t 57)
         (.kill [2, 3, 8, 9, 11, 12, 13] [3, 9, 13] (.region [
            (.load 58 (some (32, true)) (some 9) (.t 9), none),
            (.load 59 (some (32, true)) (some 13) (.t 13), none),
            (.call 60 28 [.t 58, .t 59] [] [] [], none),
            (.store (some (32, true)) (some 9) (.t 9) (.t 60), none)]))
         (.kill [2, 3, 8, 9, 11, 12, 13] [3, 9, 13] (.region [
            (.load 61 (some (32, true)) (some 13) (.t 13), none),
            (.load 62 (some (32, true)) (some 9) (.t 9), none),
            (.call 63 28 [.t 61, .t 62] [] [] [], none),
            (.store (some (32, true)) (some 9) (.t 9) (.t 63), none)]))))
       (.kill [2, 3, 8, 9, 11, 12] [3, 9] (.region [
          (.p 64 .id [.t 11], none),
          (.p 65 (.bin .quo) [.t 64, .c (.pv (.int .i64 2))], none),
          (.p 11 .id [.t 65], none)]))))))
   (.kill [2, 3, 8, 9, 11, 12] [3, 9] (.region [
      (.p 38 .id [.t 12], none),
      (.p 39 (.bin .add) [.t 38, .c (.pv (.int .i64 1))], none),
      (.p 12 .id [.t 39], none)]))))
def irRef05Verify : IR := (.seq (.region [
    (.box 3 (.t 0), none),
    (.p 6 .id [.c (.pv (.int .i64 0))], none),
    (.p 7 .id [.c (.pv (.int .i64 0))], none)])
 (.seq (.seq (.kill [1, 2, 3] [3] (.region [
      (.p 15 .id [.t 2], none),
      (.p 16 (.len none) [.t 15], none),
      (.p 17 (.bin .neq) [.t 16, .c (.pv (.int .i64 657))], none),
      (.p 18 .id [.t 17], none),
      (.p 19 .id [.t 2], some (18, false)),
      (.p 20 (.indexAddr none 1) [.t 19, .c (.pv (.int .i64 0))], some (18, false)),
      (.load 21 none (some 9999) (.t 20), some (18, false)),
      (.p 22 (.bin .gtr) [.t 21, .c (.pv (.int .u8 7))], some (18, false)),
      (.p 23 .pick [.t 18, .c (.pv (.bool true)), .t 22], none)]))
   (.cond (.t 23)
    (.seq (.kill [] [] (.region [
        (.p 6 .id [.c (.pv (.int .i64 0))], none),
        (.p 7 .id [.c (.pv (.int .i64 2))], none)]))
     .ret)
    .skip))
  (.seq (.kill [1, 2, 3] [3] (.region [
      (.p 24 .id [.t 2], none),
      (.p 25 (.indexAddr none 1) [.t 24, .c (.pv (.int .i64 0))], none),
      (.load 26 none (some 9999) (.t 25), none),
      (.p 27 (.conv .i64) [.t 26], none),
      (.p 8 .id [.t 27], none)]))
   (.seq (.kill [1, 2, 3, 8] [3] (.region [
       (.mv 29 1, none),
       (.p 30 .id [.t 2], none),
       (.p 31 (.slice none 1 true true) [.t 30, .c (.pv (.int .i64 1)), .c (.pv (.int .i64 561))], none),
       (.call 32 27 [.t 29, .t 31] [] [] [], none),
       (.p 28 .id [.t 32], none),
       (.p 33 (.ext 0) [.t 28], none),
       (.p 34 (.ext 1) [.t 28], none),
       (.alloc 9 (.pagg (List.replicate 32 (.int .u8 0))), none),
       (.store (some (32, true)) (some 9) (.t 9) (.t 33), none),
       (.p 10 .id [.t 34], none)]))
    (.seq (.kill [2, 3, 8, 9] [3, 9] (.region [
        (.p 35 .id [.t 8], none),
        (.p 11 .id [.t 35], none)]))
     (.seq (.seq (.kill [2, 3, 8, 9, 11] [3, 9] (.region [
          (.p 12 .id [.c (.pv (.int .i64 0))], none)]))
       (.block 0 (.loop (.kill [2, 3, 8, 9, 11, 12] [3, 9] irRef05Verify_L1))))
      (.seq (.seq (.kill [3, 8, 9] [3, 9] (.region [
           (.load 66 (some (32, true)) (some 9) (.t 9), none),
           (.load 67 (some (32, true)) (some 3) (.t 3), none),
           (.p 68 (.aeq true 32 .u8) [.t 66, .t 67], none)]))
        (.cond (.t 68)
         (.seq (.kill [] [] (.region [
             (.p 6 .id [.c (.pv (.int .i64 0))], none),
             (.p 7 .id [.c (.pv (.int .i64 5))], none)]))
          .ret)
         .skip))
       (.seq (.kill [8] [] (.region [
           (.p 69 .id [.t 8], none),
           (.p 6 .id [.t 69], none),
           (.p 7 .id [.c (.pv (.int .i64 0))], none)]))
        .ret))))))))
theorem okRef05Verify : okFn Try.prog Try.f15 irRef05Verify [.t 6, .t 7] [] 3 = true := by kernel_rfl

-- consistoryref05.Seed
-- consistoryref05.Seed: args [23, 3]; lent []; rs [.cell 4 (some (32, true))]; loops: L1 keeps [4, 5, 6, 7] [4, 6]
def irRef05Seed_L1 : IR := (.seq (.seq (.kill [4, 5, 6, 7] [4, 6] (.region [
      (.p 12 .id [.t 7], none),
      (.p 13 (.bin .lss) [.t 12, .c (.pv (.int .i64 32))], none)]))
   (.cond (.t 13)
    .skip
    (.exit 0)))
  (.seq (.block 1 (.kill [4, 5, 6, 7] [4, 6] (.region [
       (.p 16 .id [.t 7], none),
       (.p 17 .id [.t 5], none),
       (.p 18 .id [.t 7], none),
       (.p 19 (.indexAddr none 1) [.t 17, .t 18], none),
       (.load 20 none (some 9999) (.t 19), none),
       (.p 21 (.indexAddr (some 32) 1) [.t 6, .t 16], none),
       (.store none (some 6) (.t 21) (.t 20), none)])))
   (.kill [4, 5, 6, 7] [4, 6] (.region [
      (.p 14 .id [.t 7], none),
      (.p 15 (.bin .add) [.t 14, .c (.pv (.int .i64 1))], none),
      (.p 7 .id [.t 15], none)]))))
def irRef05Seed : IR := (.seq (.region [
    (.box 2 (.t 0), none),
    (.alloc 4 (.pagg (List.replicate 32 (.int .u8 0))), none)])
 (.seq (.kill [1, 2, 4] [2, 4] (.region [
     (.load 8 (some (32, true)) (some 2) (.t 2), none),
     (.p 9 .id [.t 1], none),
     (.call 10 13 [.t 8, .t 9, .c (.pv (.int .i64 2))] [] [] [], none),
     (.mv 5 10, none)]))
  (.seq (.kill [4, 5] [4] (.region [
      (.build 11 (.pagg (List.replicate 32 (.int .u8 0))) [], none),
      (.alloc 6 (.pagg (List.replicate 32 (.int .u8 0))), none),
      (.store (some (32, true)) (some 6) (.t 6) (.t 11), none)]))
   (.seq (.seq (.kill [4, 5, 6] [4, 6] (.region [
        (.p 7 .id [.c (.pv (.int .i64 0))], none)]))
     (.block 0 (.loop (.kill [4, 5, 6, 7] [4, 6] irRef05Seed_L1))))
    (.seq (.kill [4, 6] [4, 6] (.region [
        (.load 22 (some (32, true)) (some 6) (.t 6), none),
        (.store (some (32, true)) (some 4) (.t 4) (.t 22), none)]))
     .ret)))))
theorem okRef05Seed : okFn Try.prog Try.f10 irRef05Seed [.cell 4 (some (32, true))] [] 2 = true := by kernel_rfl

-- consistorylaw05.wakes
-- consistorylaw05.wakes: args []; lent []; rs [.t 0]; loops: 
def irLaw05Wakes : IR := (.seq (.region [
    (.p 0 .id [.c (.pv (.bool false))], none)])
 (.seq (.kill [] [] (.region [
     (.build 4 (.pagg (List.replicate 32 (.int .u8 0))) [], none),
     (.call 5 18 [.t 4, .c (.pv (.int .i64 5)), .c (.os 5 1 [])] [] [] [], none),
     (.p 3 .id [.t 5], none),
     (.p 6 (.ext 0) [.t 3], none),
     (.p 7 (.ext 1) [.t 3], none),
     (.mv 1 6, none),
     (.p 2 .id [.t 7], none)]))
  (.seq (.kill [1, 2] [] (.region [
      (.p 8 .id [.t 2], none),
      (.p 9 (.bin .eql) [.t 8, .c (.pv (.int .i64 0))], none),
      (.p 10 .id [.t 9], none),
      (.p 11 .id [.t 1], some (10, true)),
      (.p 12 (.len none) [.t 11], some (10, true)),
      (.p 13 (.bin .eql) [.t 12, .c (.pv (.int .i64 657))], some (10, true)),
      (.p 14 .pick [.t 10, .t 13, .c (.pv (.bool false))], none),
      (.p 15 .id [.t 14], none),
      (.p 16 .id [.t 1], some (15, true)),
      (.p 17 (.indexAddr none 1) [.t 16, .c (.pv (.int .i64 0))], some (15, true)),
      (.load 18 none (some 9999) (.t 17), some (15, true)),
      (.p 19 (.bin .eql) [.t 18, .c (.pv (.int .u8 5))], some (15, true)),
      (.p 20 .pick [.t 15, .t 19, .c (.pv (.bool false))], none),
      (.p 0 .id [.t 20], none)]))
   .ret)))
theorem okLaw05Wakes : okFn Try.prog Try.f7 irLaw05Wakes [.t 0] [] 0 = true := by kernel_rfl

-- consistorylaw05.KeysSigns
-- consistorylaw05.KeysSigns: args [23, 3, 33]; lent []; rs [.t 6]; loops: 
def irLaw05KeysSigns : IR := (.seq (.region [
    (.box 3 (.t 0), none),
    (.p 6 .id [.c (.pv (.bool false))], none)])
 (.seq (.seq (.kill [1, 2, 3] [3] (.region [
      (.call 13 7 [] [] [] [], none),
      (.p 14 (.un .not) [.t 13], none)]))
   (.cond (.t 14)
    (.seq (.kill [] [] (.region [
        (.p 6 .id [.c (.pv (.bool false))], none)]))
     .ret)
    .skip))
  (.seq (.seq (.kill [1, 2, 3] [3] (.region [
       (.p 15 .id [.t 2], none),
       (.p 16 (.len none) [.t 15], none),
       (.p 17 (.bin .gtr) [.t 16, .c (.pv (.int .i64 500))], none)]))
    (.cond (.t 17)
     (.seq (.kill [] [] (.region [
         (.p 6 .id [.c (.pv (.bool true))], none)]))
      .ret)
     .skip))
   (.seq (.kill [1, 2, 3] [3] (.region [
       (.load 18 (some (32, true)) (some 3) (.t 3), none),
       (.call 19 17 [.t 18] [] [] [], none),
       (.mv 7 19, none)]))
    (.seq (.kill [1, 2, 3, 7] [3] (.region [
        (.load 20 (some (32, true)) (some 3) (.t 3), none),
        (.call 21 11 [.t 20] [] [] [], none),
        (.alloc 8 (.pagg (List.replicate 32 (.int .u8 0))), none),
        (.store (some (32, true)) (some 8) (.t 8) (.t 21), none)]))
     (.seq (.seq (.kill [1, 2, 3, 7, 8] [3, 8] (.region [
          (.load 22 (some (32, true)) (some 8) (.t 8), none),
          (.p 23 .id [.t 7], none),
          (.p 24 .id [.t 7], none),
          (.p 25 (.len none) [.t 24], none),
          (.p 26 (.bin .sub) [.t 25, .c (.pv (.int .i64 1))], none),
          (.p 27 (.indexAddr none 32) [.t 23, .t 26], none),
          (.load 28 (some (32, true)) (some 9999) (.t 27), none),
          (.p 29 (.aeq true 32 .u8) [.t 22, .t 28], none)]))
       (.cond (.t 29)
        (.seq (.kill [] [] (.region [
            (.p 6 .id [.c (.pv (.bool false))], none)]))
         .ret)
        .skip))
      (.seq (.kill [1, 2, 3, 8] [3, 8] (.region [
          (.load 31 (some (32, true)) (some 3) (.t 3), none),
          (.p 32 .id [.t 1], none),
          (.bslice 33 5 1 0 [.int .u8 0] [], none),
          (.p 34 .id [.t 2], none),
          (.app 35 5 1 33 none (.t 34), none),
          (.call 36 18 [.t 31, .t 32, .t 35] [] [] [], none),
          (.p 30 .id [.t 36], none),
          (.p 37 (.ext 0) [.t 30], none),
          (.p 38 (.ext 1) [.t 30], none),
          (.mv 9 37, none),
          (.p 10 .id [.t 38], none)]))
       (.seq (.seq (.kill [1, 2, 3, 8, 9, 10] [3, 8] (.region [
            (.p 39 .id [.t 1], none),
            (.p 40 (.bin .lss) [.t 39, .c (.pv (.int .i64 0))], none),
            (.p 41 .id [.t 40], none),
            (.p 42 .id [.t 1], some (41, false)),
            (.p 43 (.bin .gtr) [.t 42, .c (.pv (.int .i64 7))], some (41, false)),
            (.p 44 .pick [.t 41, .c (.pv (.bool true)), .t 43], none)]))
         (.cond (.t 44)
          (.seq (.kill [9, 10] [] (.region [
              (.mv 45 9, none),
              (.p 46 (.len none) [.t 45], none),
              (.p 47 (.bin .eql) [.t 46, .c (.pv (.int .i64 0))], none),
              (.p 48 .id [.t 47], none),
              (.p 49 .id [.t 10], some (48, true)),
              (.p 50 (.bin .eql) [.t 49, .c (.pv (.int .i64 3))], some (48, true)),
              (.p 51 .pick [.t 48, .t 50, .c (.pv (.bool false))], none),
              (.p 6 .id [.t 51], none)]))
           .ret)
          .skip))
        (.seq (.kill [1, 2, 3, 8, 9, 10] [3, 8] (.region [
            (.load 53 (some (32, true)) (some 8) (.t 8), none),
            (.p 54 .id [.t 2], none),
            (.p 55 .id [.t 9], none),
            (.call 56 14 [.t 53, .t 54, .t 55] [] [] [], none),
            (.p 52 .id [.t 56], none),
            (.p 57 (.ext 0) [.t 52], none),
            (.p 58 (.ext 1) [.t 52], none),
            (.p 11 .id [.t 57], none),
            (.p 12 .id [.t 58], none)]))
         (.seq (.kill [1, 2, 3, 9, 10, 11, 12] [3] (.region [
             (.p 59 .id [.t 10], none),
             (.p 60 (.bin .eql) [.t 59, .c (.pv (.int .i64 0))], none),
             (.p 61 .id [.t 60], none),
             (.mv 62 9, some (61, true)),
             (.load 63 (some (32, true)) (some 3) (.t 3), some (61, true)),
             (.p 64 .id [.t 1], some (61, true)),
             (.mv 65 2, some (61, true)),
             (.call 66 16 [.t 63, .t 64, .t 65] [] [] [], some (61, true)),
             (.call 67 12 [.t 62, .t 66] [] [] [], some (61, true)),
             (.p 68 .pick [.t 61, .t 67, .c (.pv (.bool false))], none),
             (.p 69 .id [.t 68], none),
             (.p 70 .id [.t 12], some (69, true)),
             (.p 71 (.bin .eql) [.t 70, .c (.pv (.int .i64 0))], some (69, true)),
             (.p 72 .pick [.t 69, .t 71, .c (.pv (.bool false))], none),
             (.p 73 .id [.t 72], none),
             (.p 74 .id [.t 11], some (73, true)),
             (.p 75 .id [.t 1], some (73, true)),
             (.p 76 (.bin .eql) [.t 74, .t 75], some (73, true)),
             (.p 77 .pick [.t 73, .t 76, .c (.pv (.bool false))], none),
             (.p 6 .id [.t 77], none)]))
          .ret))))))))))
theorem okLaw05KeysSigns : okFn Try.prog Try.f6 irLaw05KeysSigns [.t 6] [] 3 = true := by kernel_rfl

-- consistorylaw05.KeysVerify
-- consistorylaw05.KeysVerify: args [23, 33, 33]; lent []; rs [.t 6]; loops: 
def irLaw05KeysVerify : IR := (.seq (.region [
    (.box 3 (.t 0), none),
    (.p 6 .id [.c (.pv (.bool false))], none)])
 (.seq (.seq (.kill [1, 2, 3] [3] (.region [
      (.call 12 7 [] [] [] [], none),
      (.p 13 (.un .not) [.t 12], none)]))
   (.cond (.t 13)
    (.seq (.kill [] [] (.region [
        (.p 6 .id [.c (.pv (.bool false))], none)]))
     .ret)
    .skip))
  (.seq (.seq (.kill [1, 2, 3] [3] (.region [
       (.p 14 .id [.t 1], none),
       (.p 15 (.len none) [.t 14], none),
       (.p 16 (.bin .gtr) [.t 15, .c (.pv (.int .i64 500))], none),
       (.p 17 .id [.t 16], none),
       (.p 18 .id [.t 2], some (17, false)),
       (.p 19 (.len none) [.t 18], some (17, false)),
       (.p 20 (.bin .gtr) [.t 19, .c (.pv (.int .i64 2000))], some (17, false)),
       (.p 21 .pick [.t 17, .c (.pv (.bool true)), .t 20], none)]))
    (.cond (.t 21)
     (.seq (.kill [] [] (.region [
         (.p 6 .id [.c (.pv (.bool true))], none)]))
      .ret)
     .skip))
   (.seq (.kill [1, 2, 3] [3] (.region [
       (.bslice 22 5 1 0 [.int .u8 0] [], none),
       (.p 23 .id [.t 2], none),
       (.app 24 5 1 22 none (.t 23), none),
       (.mv 7 24, none)]))
    (.seq (.kill [1, 2, 3, 7] [3] (.region [
        (.load 26 (some (32, true)) (some 3) (.t 3), none),
        (.p 27 .id [.t 1], none),
        (.p 28 .id [.t 7], none),
        (.call 29 14 [.t 26, .t 27, .t 28] [] [] [], none),
        (.p 25 .id [.t 29], none),
        (.p 30 (.ext 0) [.t 25], none),
        (.p 31 (.ext 1) [.t 25], none),
        (.p 8 .id [.t 30], none),
        (.p 9 .id [.t 31], none)]))
     (.seq (.kill [1, 2, 3, 7, 8, 9] [3] (.region [
         (.load 33 (some (32, true)) (some 3) (.t 3), none),
         (.mv 34 1, none),
         (.p 35 .id [.t 2], none),
         (.call 36 15 [.t 33, .t 34, .t 35] [] [] [], none),
         (.p 32 .id [.t 36], none),
         (.p 37 (.ext 0) [.t 32], none),
         (.p 38 (.ext 1) [.t 32], none),
         (.p 10 .id [.t 37], none),
         (.p 11 .id [.t 38], none)]))
      (.seq (.kill [2, 7, 8, 9, 10, 11] [] (.region [
          (.p 39 .id [.t 8], none),
          (.p 40 .id [.t 10], none),
          (.p 41 (.bin .eql) [.t 39, .t 40], none),
          (.p 42 .id [.t 41], none),
          (.p 43 .id [.t 9], some (42, true)),
          (.p 44 .id [.t 11], some (42, true)),
          (.p 45 (.bin .eql) [.t 43, .t 44], some (42, true)),
          (.p 46 .pick [.t 42, .t 45, .c (.pv (.bool false))], none),
          (.p 47 .id [.t 46], none),
          (.mv 48 7, some (47, true)),
          (.mv 49 2, some (47, true)),
          (.call 50 12 [.t 48, .t 49] [] [] [], some (47, true)),
          (.p 51 .pick [.t 47, .t 50, .c (.pv (.bool false))], none),
          (.p 6 .id [.t 51], none)]))
       .ret)))))))
theorem okLaw05KeysVerify : okFn Try.prog Try.f4 irLaw05KeysVerify [.t 6] [] 3 = true := by kernel_rfl

-- consistorylaw05.KeysTable
-- consistorylaw05.KeysTable: args [23, 5, 5]; lent []; rs [.t 6]; loops: 
def irLaw05KeysTable : IR := (.seq (.region [
    (.box 3 (.t 0), none),
    (.p 6 .id [.c (.pv (.bool false))], none)])
 (.seq (.seq (.kill [1, 2, 3] [3] (.region [
      (.call 11 7 [] [] [] [], none),
      (.p 12 (.un .not) [.t 11], none)]))
   (.cond (.t 12)
    (.seq (.kill [] [] (.region [
        (.p 6 .id [.c (.pv (.bool false))], none)]))
     .ret)
    .skip))
  (.seq (.kill [1, 2, 3] [3] (.region [
      (.load 13 (some (32, true)) (some 3) (.t 3), none),
      (.call 14 8 [.t 13] [] [] [], none),
      (.alloc 7 (.agg [.os 33 1 [], .os 23 32 []]), none),
      (.store (some (2, true)) (some 7) (.t 7) (.t 14), none)]))
   (.seq (.seq (.kill [1, 2, 3, 7] [3, 7] (.region [
        (.p 15 (.fieldAddr 0) [.t 7], none),
        (.load 16 none (some 7) (.t 15), none),
        (.p 17 (.len none) [.t 16], none),
        (.p 18 (.bin .neq) [.t 17, .c (.pv (.int .i64 16))], none),
        (.p 19 .id [.t 18], none),
        (.p 20 (.fieldAddr 1) [.t 7], some (19, false)),
        (.load 21 none (some 7) (.t 20), some (19, false)),
        (.p 22 (.len none) [.t 21], some (19, false)),
        (.p 23 (.bin .neq) [.t 22, .c (.pv (.int .i64 6))], some (19, false)),
        (.p 24 .pick [.t 19, .c (.pv (.bool true)), .t 23], none)]))
     (.cond (.t 24)
      (.seq (.kill [] [] (.region [
          (.p 6 .id [.c (.pv (.bool false))], none)]))
       .ret)
      .skip))
    (.seq (.kill [1, 2, 3, 7] [3, 7] (.region [
        (.p 25 .id [.t 1], none),
        (.p 26 (.conv .i64) [.t 25], none),
        (.p 27 (.bin .rem) [.t 26, .c (.pv (.int .i64 6))], none),
        (.p 28 .id [.t 2], none),
        (.p 29 (.conv .i64) [.t 28], none),
        (.p 30 (.bin .rem) [.t 29, .c (.pv (.int .i64 16))], none),
        (.p 8 .id [.t 27], none),
        (.p 9 .id [.t 30], none)]))
     (.seq (.kill [3, 7, 8, 9] [3, 7] (.region [
         (.load 31 (some (32, true)) (some 3) (.t 3), none),
         (.p 32 .id [.t 8], none),
         (.call 33 9 [.t 31, .t 32] [] [] [], none),
         (.alloc 10 (.pagg (List.replicate 32 (.int .u8 0))), none),
         (.store (some (32, true)) (some 10) (.t 10) (.t 33), none)]))
      (.seq (.kill [3, 7, 8, 9, 10] [3, 7, 10] (.region [
          (.load 34 (some (32, true)) (some 10) (.t 10), none),
          (.load 35 (some (32, true)) (some 3) (.t 3), none),
          (.p 36 .id [.t 8], none),
          (.call 37 10 [.t 35, .t 36] [] [] [], none),
          (.p 38 (.aeq false 32 .u8) [.t 34, .t 37], none),
          (.p 39 .id [.t 38], none),
          (.p 40 (.fieldAddr 1) [.t 7], some (39, true)),
          (.load 41 none (some 7) (.t 40), some (39, true)),
          (.p 42 .id [.t 8], some (39, true)),
          (.p 43 (.indexAddr none 32) [.t 41, .t 42], some (39, true)),
          (.load 44 (some (32, true)) (some 9999) (.t 43), some (39, true)),
          (.load 45 (some (32, true)) (some 10) (.t 10), some (39, true)),
          (.call 46 11 [.t 45] [] [] [], some (39, true)),
          (.p 47 (.aeq false 32 .u8) [.t 44, .t 46], some (39, true)),
          (.p 48 .pick [.t 39, .t 47, .c (.pv (.bool false))], none),
          (.p 49 .id [.t 48], none),
          (.p 50 (.fieldAddr 0) [.t 7], some (49, true)),
          (.load 51 none (some 7) (.t 50), some (49, true)),
          (.p 52 .id [.t 9], some (49, true)),
          (.p 53 (.indexAddr none 1) [.t 51, .t 52], some (49, true)),
          (.load 54 none (some 9999) (.t 53), some (49, true)),
          (.load 55 (some (32, true)) (some 3) (.t 3), some (49, true)),
          (.p 56 .id [.t 9], some (49, true)),
          (.call 57 13 [.t 55, .t 56, .c (.pv (.int .i64 1))] [] [] [], some (49, true)),
          (.call 58 12 [.t 54, .t 57] [] [] [], some (49, true)),
          (.p 59 .pick [.t 49, .t 58, .c (.pv (.bool false))], none),
          (.p 6 .id [.t 59], none)]))
       .ret)))))))
theorem okLaw05KeysTable : okFn Try.prog Try.f3 irLaw05KeysTable [.t 6] [] 3 = true := by kernel_rfl

-- consistorylaw05.KeysApart
-- consistorylaw05.KeysApart: args [23, 33, 5]; lent []; rs [.t 6]; loops: 
def irLaw05KeysApart : IR := (.seq (.region [
    (.box 3 (.t 0), none),
    (.p 6 .id [.c (.pv (.bool false))], none)])
 (.seq (.seq (.kill [1, 2, 3] [3] (.region [
      (.call 15 7 [] [] [] [], none),
      (.p 16 (.un .not) [.t 15], none)]))
   (.cond (.t 16)
    (.seq (.kill [] [] (.region [
        (.p 6 .id [.c (.pv (.bool false))], none)]))
     .ret)
    .skip))
  (.seq (.seq (.kill [1, 2, 3] [3] (.region [
       (.p 17 .id [.t 1], none),
       (.p 18 (.len none) [.t 17], none),
       (.p 19 (.bin .gtr) [.t 18, .c (.pv (.int .i64 300))], none)]))
    (.cond (.t 19)
     (.seq (.kill [] [] (.region [
         (.p 6 .id [.c (.pv (.bool true))], none)]))
      .ret)
     .skip))
   (.seq (.kill [1, 2, 3] [3] (.region [
       (.load 20 (some (32, true)) (some 3) (.t 3), none),
       (.p 21 .id [.t 2], none),
       (.p 22 (.conv .i64) [.t 21], none),
       (.p 23 (.bin .rem) [.t 22, .c (.pv (.int .i64 8))], none),
       (.p 24 .id [.t 1], none),
       (.call 25 16 [.t 20, .t 23, .t 24] [] [] [], none),
       (.mv 7 25, none)]))
    (.seq (.kill [1, 2, 7] [] (.region [
        (.p 26 .id [.t 7], none),
        (.p 27 .id [.t 2], none),
        (.p 28 (.conv .i64) [.t 27], none),
        (.p 29 (.slice none 1 false true) [.t 26, .t 28], none),
        (.mv 8 29, none)]))
     (.seq (.kill [1, 2, 7, 8] [] (.region [
         (.build 31 (.pagg (List.replicate 32 (.int .u8 0))) [], none),
         (.p 32 .id [.t 1], none),
         (.mv 33 8, none),
         (.call 34 14 [.t 31, .t 32, .t 33] [] [] [], none),
         (.p 30 .id [.t 34], none),
         (.p 35 (.ext 0) [.t 30], none),
         (.p 36 (.ext 1) [.t 30], none),
         (.p 9 .id [.t 35], none),
         (.p 10 .id [.t 36], none)]))
      (.seq (.kill [1, 2, 7, 10] [] (.region [
          (.p 37 .id [.t 7], none),
          (.p 38 .id [.t 2], none),
          (.p 39 (.indexAddr none 1) [.t 37, .c (.pv (.int .i64 0))], none),
          (.store none (some 9999) (.t 39) (.t 38), none)]))
       (.seq (.kill [1, 2, 7, 10] [] (.region [
           (.build 41 (.pagg (List.replicate 32 (.int .u8 0))) [], none),
           (.p 42 .id [.t 1], none),
           (.p 43 .id [.t 7], none),
           (.call 44 14 [.t 41, .t 42, .t 43] [] [] [], none),
           (.p 40 .id [.t 44], none),
           (.p 45 (.ext 0) [.t 40], none),
           (.p 46 (.ext 1) [.t 40], none),
           (.p 11 .id [.t 45], none),
           (.p 12 .id [.t 46], none)]))
        (.seq (.kill [1, 2, 7, 10, 11, 12] [] (.region [
            (.build 48 (.pagg (List.replicate 32 (.int .u8 0))) [], none),
            (.mv 49 1, none),
            (.mv 50 7, none),
            (.call 51 15 [.t 48, .t 49, .t 50] [] [] [], none),
            (.p 47 .id [.t 51], none),
            (.p 52 (.ext 0) [.t 47], none),
            (.p 53 (.ext 1) [.t 47], none),
            (.p 13 .id [.t 52], none),
            (.p 14 .id [.t 53], none)]))
         (.seq (.kill [2, 10, 11, 12, 13, 14] [] (.region [
             (.p 54 .id [.t 10], none),
             (.p 55 (.bin .eql) [.t 54, .c (.pv (.int .i64 2))], none),
             (.p 56 .id [.t 55], none),
             (.p 57 .id [.t 11], some (56, true)),
             (.p 58 .id [.t 13], some (56, true)),
             (.p 59 (.bin .eql) [.t 57, .t 58], some (56, true)),
             (.p 60 .pick [.t 56, .t 59, .c (.pv (.bool false))], none),
             (.p 61 .id [.t 60], none),
             (.p 62 .id [.t 12], some (61, true)),
             (.p 63 .id [.t 14], some (61, true)),
             (.p 64 (.bin .eql) [.t 62, .t 63], some (61, true)),
             (.p 65 .pick [.t 61, .t 64, .c (.pv (.bool false))], none),
             (.p 66 .id [.t 65], none),
             (.p 67 .id [.t 2], some (66, true)),
             (.p 68 (.bin .lss) [.t 67, .c (.pv (.int .u8 8))], some (66, true)),
             (.p 69 .id [.t 68], some (66, true)),
             (.p 70 .id [.t 12], some (69, false)),
             (.p 71 (.bin .eql) [.t 70, .c (.pv (.int .i64 2))], some (69, false)),
             (.p 72 .pick [.t 69, .c (.pv (.bool true)), .t 71], some (66, true)),
             (.p 73 .pick [.t 66, .t 72, .c (.pv (.bool false))], none),
             (.p 6 .id [.t 73], none)]))
          .ret))))))))))
theorem okLaw05KeysApart : okFn Try.prog Try.f5 irLaw05KeysApart [.t 6] [] 3 = true := by kernel_rfl

end Go.Proofs.Ytlmjhnlhgmabpaa
