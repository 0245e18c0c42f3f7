/- The abstract code of functions, printed by gen_ir.py out of the program's form in Lean; each is checked against it. -/
import Derived.Test.YtljnacchbbdahaaProg
import Derived.Test.YtljnacchbbdahaaAbs2
set_option linter.unusedVariables false
set_option linter.unusedSimpArgs false
set_option maxRecDepth 100000
namespace Go.Proofs.Ytljnacchbbdahaa
open Go.Abs
-- ots.Digits
-- ots.Digits: args [23]; lent []; rs [.cell 2 (some (35, true))]; loops: L1 keeps [1, 2, 3, 4, 7] [1, 2, 3]; L2 keeps [2, 3, 4, 41] [2, 3]
def irOtsDigits_L1 : IR := (.seq (.kill [1, 2, 3, 4, 7] [1, 2, 3] (.region [
     (.p 8 (.bin .lss) [.t 7, .c (.pv (.int .i64 16))], none)]))
  (.seq (.cond (.t 8)
    .skip
    (.exit 0))
   (.seq (.block 1 (.seq (.kill [1, 2, 3, 4, 7] [1, 2, 3] (.region [
         (.p 9 .id [.t 7], none),
         (.p 5 .id [.t 9], none)]))
      (.seq (.kill [1, 2, 3, 4, 5, 7] [1, 2, 3] (.region [
          (.p 10 .id [.t 5], none),
          (.p 11 (.bin .mul) [.c (.pv (.int .i64 2)), .t 10], none),
          (.p 12 .id [.t 5], none),
          (.p 13 (.bin .mul) [.c (.pv (.int .i64 2)), .t 12], none),
          (.p 14 (.bin .add) [.t 13, .c (.pv (.int .i64 1))], none),
          (.p 15 .id [.t 5], none),
          (.p 16 (.indexAddr (some 32) 1) [.t 1, .t 15], none),
          (.load 17 none (some 1) (.t 16), none),
          (.p 18 (.bin .shr) [.t 17, .c (.pv (.int .u64 4))], none),
          (.p 19 (.conv .i64) [.t 18], none),
          (.p 20 .id [.t 5], none),
          (.p 21 (.indexAddr (some 32) 1) [.t 1, .t 20], none),
          (.load 22 none (some 1) (.t 21), none),
          (.p 23 (.bin .and) [.t 22, .c (.pv (.int .u8 15))], none),
          (.p 24 (.conv .i64) [.t 23], none),
          (.p 25 (.indexAddr (some 35) 1) [.t 3, .t 11], none),
          (.store none (some 3) (.t 25) (.t 19), none),
          (.p 26 (.indexAddr (some 35) 1) [.t 3, .t 14], none),
          (.store none (some 3) (.t 26) (.t 24), none)]))
       (.kill [1, 2, 3, 4, 5, 7] [1, 2, 3] (.region [
          (.p 27 .id [.t 4], none),
          (.p 28 .id [.t 5], none),
          (.p 29 (.bin .mul) [.c (.pv (.int .i64 2)), .t 28], none),
          (.p 30 (.indexAddr (some 35) 1) [.t 3, .t 29], none),
          (.load 31 none (some 3) (.t 30), none),
          (.p 32 (.bin .sub) [.c (.pv (.int .i64 30)), .t 31], none),
          (.p 33 .id [.t 5], none),
          (.p 34 (.bin .mul) [.c (.pv (.int .i64 2)), .t 33], none),
          (.p 35 (.bin .add) [.t 34, .c (.pv (.int .i64 1))], none),
          (.p 36 (.indexAddr (some 35) 1) [.t 3, .t 35], none),
          (.load 37 none (some 3) (.t 36), none),
          (.p 38 (.bin .sub) [.t 32, .t 37], none),
          (.p 39 (.bin .add) [.t 27, .t 38], none),
          (.p 4 .id [.t 39], none)])))))
    (.kill [1, 2, 3, 4, 7] [1, 2, 3] (.region [
       (.p 40 (.bin .add) [.t 7, .c (.pv (.int .i64 1))], none),
       (.p 7 .id [.t 40], none)])))))
def irOtsDigits_L2 : IR := (.seq (.kill [2, 3, 4, 41] [2, 3] (.region [
     (.p 42 (.bin .lss) [.t 41, .c (.pv (.int .i64 3))], none)]))
  (.seq (.cond (.t 42)
    .skip
    (.exit 2))
   (.seq (.block 3 (.seq (.kill [2, 3, 4, 41] [2, 3] (.region [
         (.p 43 .id [.t 41], none),
         (.p 6 .id [.t 43], none)]))
      (.kill [2, 3, 4, 6, 41] [2, 3] (.region [
         (.p 44 .id [.t 6], none),
         (.p 45 (.bin .add) [.c (.pv (.int .i64 32)), .t 44], none),
         (.p 46 .id [.t 4], none),
         (.p 47 .id [.t 6], none),
         (.p 48 (.bin .mul) [.c (.pv (.int .i64 4)), .t 47], none),
         (.p 49 (.bin .sub) [.c (.pv (.int .i64 8)), .t 48], none),
         (.p 50 (.bin .shr) [.t 46, .t 49], none),
         (.p 51 (.bin .and) [.t 50, .c (.pv (.int .i64 15))], none),
         (.p 52 (.indexAddr (some 35) 1) [.t 3, .t 45], none),
         (.store none (some 3) (.t 52) (.t 51), none)]))))
    (.kill [2, 3, 4, 41] [2, 3] (.region [
       (.p 53 (.bin .add) [.t 41, .c (.pv (.int .i64 1))], none),
       (.p 41 .id [.t 53], none)])))))
def irOtsDigits : IR := (.seq (.region [
    (.box 1 (.t 0), none),
    (.alloc 2 (.pagg (List.replicate 35 (.int .i64 0))), none)])
 (.seq (.kill [1, 2] [1, 2] (.region [
     (.alloc 3 (.pagg (List.replicate 35 (.int .i64 0))), none)]))
  (.seq (.kill [1, 2, 3] [1, 2, 3] (.region [
      (.p 4 .id [.c (.pv (.int .i64 0))], none)]))
   (.seq (.seq (.kill [1, 2, 3, 4] [1, 2, 3] (.region [
        (.p 7 .id [.c (.pv (.int .i64 0))], none)]))
     (.block 0 (.loop (.kill [1, 2, 3, 4, 7] [1, 2, 3] irOtsDigits_L1))))
    (.seq (.seq (.kill [2, 3, 4] [2, 3] (.region [
         (.p 41 .id [.c (.pv (.int .i64 0))], none)]))
      (.block 2 (.loop (.kill [2, 3, 4, 41] [2, 3] irOtsDigits_L2))))
     (.seq (.kill [2, 3] [2, 3] (.region [
         (.load 54 (some (35, true)) (some 3) (.t 3), none),
         (.store (some (35, true)) (some 2) (.t 2) (.t 54), none)]))
      .ret))))))
theorem okOtsDigits : okFn Try.prog Try.f8 irOtsDigits [.cell 2 (some (35, true))] [] 1 = true := by kernel_rfl

-- consistoryref04.Digits
-- consistoryref04.Digits: args [23]; lent []; rs [.t 2]; loops: L1 keeps [1, 3, 4, 5] [1]
def irRef04Digits_L1 : IR := (.seq (.seq (.kill [1, 3, 4, 5] [1] (.region [
      (.p 8 .id [.t 5], none),
      (.p 9 (.bin .lss) [.t 8, .c (.pv (.int .i64 16))], none)]))
   (.cond (.t 9)
    .skip
    (.exit 0)))
  (.seq (.block 1 (.seq (.kill [1, 3, 4, 5] [1] (.region [
        (.p 12 .id [.t 5], none),
        (.p 13 (.indexAddr (some 32) 1) [.t 1, .t 12], none),
        (.load 14 none (some 1) (.t 13), none),
        (.p 15 (.conv .i64) [.t 14], none),
        (.p 16 (.bin .quo) [.t 15, .c (.pv (.int .i64 16))], none),
        (.p 6 .id [.t 16], none)]))
     (.seq (.kill [1, 3, 4, 5, 6] [1] (.region [
         (.p 17 .id [.t 5], none),
         (.p 18 (.indexAddr (some 32) 1) [.t 1, .t 17], none),
         (.load 19 none (some 1) (.t 18), none),
         (.p 20 (.conv .i64) [.t 19], none),
         (.p 21 (.bin .rem) [.t 20, .c (.pv (.int .i64 16))], none),
         (.p 7 .id [.t 21], none)]))
      (.seq (.kill [1, 3, 4, 5, 6, 7] [1] (.region [
          (.mv 22 3, none),
          (.p 23 .id [.t 6], none),
          (.p 24 .id [.t 7], none),
          (.bslice 25 3 1 2 [.int .i64 0] [(0, .t 23), (1, .t 24)], none),
          (.app 26 3 1 22 none (.t 25), none),
          (.mv 3 26, none)]))
       (.kill [1, 3, 4, 5, 6, 7] [1] (.region [
          (.p 27 .id [.t 4], none),
          (.p 28 (.bin .add) [.t 27, .c (.pv (.int .i64 30))], none),
          (.p 29 .id [.t 6], none),
          (.p 30 (.bin .sub) [.t 28, .t 29], none),
          (.p 31 .id [.t 7], none),
          (.p 32 (.bin .sub) [.t 30, .t 31], none),
          (.p 4 .id [.t 32], none)]))))))
   (.kill [1, 3, 4, 5] [1] (.region [
      (.p 10 .id [.t 5], none),
      (.p 11 (.bin .add) [.t 10, .c (.pv (.int .i64 1))], none),
      (.p 5 .id [.t 11], none)]))))
def irRef04Digits : IR := (.seq (.region [
    (.box 1 (.t 0), none),
    (.p 2 .id [.c (.os 3 1 [])], none)])
 (.seq (.kill [1] [1] (.region [
     (.p 3 .id [.c (.os 3 1 [])], none)]))
  (.seq (.kill [1, 3] [1] (.region [
      (.p 4 .id [.c (.pv (.int .i64 0))], none)]))
   (.seq (.seq (.kill [1, 3, 4] [1] (.region [
        (.p 5 .id [.c (.pv (.int .i64 0))], none)]))
     (.block 0 (.loop (.kill [1, 3, 4, 5] [1] irRef04Digits_L1))))
    (.seq (.kill [3, 4] [] (.region [
        (.mv 33 3, none),
        (.p 34 .id [.t 4], none),
        (.p 35 (.bin .quo) [.t 34, .c (.pv (.int .i64 256))], none),
        (.p 36 .id [.t 4], none),
        (.p 37 (.bin .quo) [.t 36, .c (.pv (.int .i64 16))], none),
        (.p 38 (.bin .rem) [.t 37, .c (.pv (.int .i64 16))], none),
        (.p 39 .id [.t 4], none),
        (.p 40 (.bin .rem) [.t 39, .c (.pv (.int .i64 16))], none),
        (.bslice 41 3 1 3 [.int .i64 0] [(0, .t 35), (1, .t 38), (2, .t 40)], none),
        (.app 42 3 1 33 none (.t 41), none),
        (.mv 3 42, none)]))
     (.seq (.kill [3] [] (.region [
         (.mv 43 3, none),
         (.mv 2 43, none)]))
      .ret))))))
theorem okRef04Digits : okFn Try.prog Try.f10 irRef04Digits [.t 2] [] 1 = true := by kernel_rfl

-- consistorylaw04.same
-- consistorylaw04.same: args [25, 28]; lent []; rs [.t 4]; loops: L1 keeps [1, 2, 9] [2]
def irLaw04Same_L1 : IR := (.seq (.kill [1, 2, 9] [2] (.region [
     (.p 10 (.bin .lss) [.t 9, .c (.pv (.int .i64 35))], none)]))
  (.seq (.cond (.t 10)
    .skip
    (.exit 0))
   (.seq (.block 1 (.seq (.kill [1, 2, 9] [2] (.region [
         (.p 11 .id [.t 9], none),
         (.p 5 .id [.t 11], none)]))
      (.seq (.kill [1, 2, 5, 9] [2] (.region [
          (.p 12 .id [.t 5], none),
          (.p 13 (.indexAddr (some 35) 1) [.t 2, .t 12], none),
          (.load 14 none (some 2) (.t 13), none),
          (.p 15 .id [.t 1], none),
          (.p 16 .id [.t 5], none),
          (.p 17 (.indexAddr none 1) [.t 15, .t 16], none),
          (.load 18 none (some 9999) (.t 17), none),
          (.p 19 (.bin .neq) [.t 14, .t 18], none)]))
       (.cond (.t 19)
        (.seq (.kill [] [] (.region [
            (.p 4 .id [.c (.pv (.bool false))], none)]))
         .ret)
        .skip))))
    (.kill [1, 2, 9] [2] (.region [
       (.p 20 (.bin .add) [.t 9, .c (.pv (.int .i64 1))], none),
       (.p 9 .id [.t 20], none)])))))
def irLaw04Same : IR := (.seq (.region [
    (.box 2 (.t 0), none),
    (.p 4 .id [.c (.pv (.bool false))], none)])
 (.seq (.seq (.kill [1, 2] [2] (.region [
      (.p 6 .id [.t 1], none),
      (.p 7 (.len none) [.t 6], none),
      (.p 8 (.bin .neq) [.t 7, .c (.pv (.int .i64 35))], none)]))
   (.cond (.t 8)
    (.seq (.kill [] [] (.region [
        (.p 4 .id [.c (.pv (.bool false))], none)]))
     .ret)
    .skip))
  (.seq (.seq (.kill [1, 2] [2] (.region [
       (.p 9 .id [.c (.pv (.int .i64 0))], none)]))
    (.block 0 (.loop (.kill [1, 2, 9] [2] irLaw04Same_L1))))
   (.seq (.kill [] [] (.region [
       (.p 4 .id [.c (.pv (.bool true))], none)]))
    .ret))))
theorem okLaw04Same : okFn Try.prog Try.f9 irLaw04Same [.t 4] [] 2 = true := by kernel_rfl

-- consistorylaw04.wakes
-- consistorylaw04.wakes: args []; lent []; rs [.t 0]; loops: 
def irLaw04Wakes : IR := (.seq (.region [
    (.p 0 .id [.c (.pv (.bool false))], none)])
 (.seq (.kill [] [] (.region [
     (.build 2 (.pagg (List.replicate 32 (.int .u8 0))) [], none),
     (.call 3 8 [.t 2] [] [] [], none),
     (.alloc 1 (.pagg (List.replicate 35 (.int .i64 0))), none),
     (.store (some (35, true)) (some 1) (.t 1) (.t 3), none)]))
  (.seq (.kill [1] [1] (.region [
      (.p 4 (.indexAddr (some 35) 1) [.t 1, .c (.pv (.int .i64 0))], none),
      (.load 5 none (some 1) (.t 4), none),
      (.p 6 (.bin .eql) [.t 5, .c (.pv (.int .i64 0))], none),
      (.p 7 .id [.t 6], none),
      (.p 8 (.indexAddr (some 35) 1) [.t 1, .c (.pv (.int .i64 31))], some (7, true)),
      (.load 9 none (some 1) (.t 8), some (7, true)),
      (.p 10 (.bin .eql) [.t 9, .c (.pv (.int .i64 0))], some (7, true)),
      (.p 11 .pick [.t 7, .t 10, .c (.pv (.bool false))], none),
      (.p 12 .id [.t 11], none),
      (.p 13 (.indexAddr (some 35) 1) [.t 1, .c (.pv (.int .i64 32))], some (12, true)),
      (.load 14 none (some 1) (.t 13), some (12, true)),
      (.p 15 (.bin .eql) [.t 14, .c (.pv (.int .i64 1))], some (12, true)),
      (.p 16 .pick [.t 12, .t 15, .c (.pv (.bool false))], none),
      (.p 17 .id [.t 16], none),
      (.p 18 (.indexAddr (some 35) 1) [.t 1, .c (.pv (.int .i64 33))], some (17, true)),
      (.load 19 none (some 1) (.t 18), some (17, true)),
      (.p 20 (.bin .eql) [.t 19, .c (.pv (.int .i64 14))], some (17, true)),
      (.p 21 .pick [.t 17, .t 20, .c (.pv (.bool false))], none),
      (.p 22 .id [.t 21], none),
      (.p 23 (.indexAddr (some 35) 1) [.t 1, .c (.pv (.int .i64 34))], some (22, true)),
      (.load 24 none (some 1) (.t 23), some (22, true)),
      (.p 25 (.bin .eql) [.t 24, .c (.pv (.int .i64 0))], some (22, true)),
      (.p 26 .pick [.t 22, .t 25, .c (.pv (.bool false))], none),
      (.p 0 .id [.t 26], none)]))
   .ret)))
theorem okLaw04Wakes : okFn Try.prog Try.f7 irLaw04Wakes [.t 0] [] 0 = true := by kernel_rfl

-- consistorylaw04.OtsDigits
-- consistorylaw04.OtsDigits: args [23, 23]; lent []; rs [.t 4]; loops: L1 keeps [2, 3, 5, 6, 7, 8, 9, 30] [2, 3, 5, 6]; L2 keeps [2, 3, 7, 8, 9, 54] [2, 3]
def irLaw04OtsDigits_L1 : IR := (.seq (.kill [2, 3, 5, 6, 7, 8, 9, 30] [2, 3, 5, 6] (.region [
     (.p 31 (.bin .lss) [.t 30, .c (.pv (.int .i64 35))], none)]))
  (.seq (.cond (.t 31)
    .skip
    (.exit 0))
   (.seq (.block 1 (.seq (.kill [2, 3, 5, 6, 7, 8, 9, 30] [2, 3, 5, 6] (.region [
         (.p 32 .id [.t 30], none),
         (.p 10 .id [.t 32], none)]))
      (.seq (.kill [2, 3, 5, 6, 7, 8, 9, 10, 30] [2, 3, 5, 6] (.region [
          (.p 33 .id [.t 7], none),
          (.p 34 .id [.t 33], none),
          (.p 35 .id [.t 10], some (34, false)),
          (.p 36 (.indexAddr (some 35) 1) [.t 5, .t 35], some (34, false)),
          (.load 37 none (some 5) (.t 36), some (34, false)),
          (.p 38 .id [.t 10], some (34, false)),
          (.p 39 (.indexAddr (some 35) 1) [.t 6, .t 38], some (34, false)),
          (.load 40 none (some 6) (.t 39), some (34, false)),
          (.p 41 (.bin .lss) [.t 37, .t 40], some (34, false)),
          (.p 42 .pick [.t 34, .c (.pv (.bool true)), .t 41], none),
          (.p 7 .id [.t 42], none)]))
       (.kill [2, 3, 5, 6, 7, 8, 9, 10, 30] [2, 3, 5, 6] (.region [
          (.p 43 .id [.t 8], none),
          (.p 44 .id [.t 43], none),
          (.p 45 .id [.t 10], some (44, false)),
          (.p 46 (.indexAddr (some 35) 1) [.t 5, .t 45], some (44, false)),
          (.load 47 none (some 5) (.t 46), some (44, false)),
          (.p 48 .id [.t 10], some (44, false)),
          (.p 49 (.indexAddr (some 35) 1) [.t 6, .t 48], some (44, false)),
          (.load 50 none (some 6) (.t 49), some (44, false)),
          (.p 51 (.bin .gtr) [.t 47, .t 50], some (44, false)),
          (.p 52 .pick [.t 44, .c (.pv (.bool true)), .t 51], none),
          (.p 8 .id [.t 52], none)])))))
    (.kill [2, 3, 5, 6, 7, 8, 9, 30] [2, 3, 5, 6] (.region [
       (.p 53 (.bin .add) [.t 30, .c (.pv (.int .i64 1))], none),
       (.p 30 .id [.t 53], none)])))))
def irLaw04OtsDigits_L2 : IR := (.seq (.kill [2, 3, 7, 8, 9, 54] [2, 3] (.region [
     (.p 55 (.bin .lss) [.t 54, .c (.pv (.int .i64 16))], none)]))
  (.seq (.cond (.t 55)
    .skip
    (.exit 2))
   (.seq (.block 3 (.seq (.kill [2, 3, 7, 8, 9, 54] [2, 3] (.region [
         (.p 56 .id [.t 54], none),
         (.p 11 .id [.t 56], none)]))
      (.kill [2, 3, 7, 8, 9, 11, 54] [2, 3] (.region [
         (.p 57 .id [.t 9], none),
         (.p 58 .id [.t 57], none),
         (.p 59 .id [.t 11], some (58, false)),
         (.p 60 (.indexAddr (some 32) 1) [.t 2, .t 59], some (58, false)),
         (.load 61 none (some 2) (.t 60), some (58, false)),
         (.p 62 .id [.t 11], some (58, false)),
         (.p 63 (.indexAddr (some 32) 1) [.t 3, .t 62], some (58, false)),
         (.load 64 none (some 3) (.t 63), some (58, false)),
         (.p 65 (.bin .neq) [.t 61, .t 64], some (58, false)),
         (.p 66 .pick [.t 58, .c (.pv (.bool true)), .t 65], none),
         (.p 9 .id [.t 66], none)]))))
    (.kill [2, 3, 7, 8, 9, 54] [2, 3] (.region [
       (.p 67 (.bin .add) [.t 54, .c (.pv (.int .i64 1))], none),
       (.p 54 .id [.t 67], none)])))))
def irLaw04OtsDigits : IR := (.seq (.region [
    (.box 2 (.t 0), none),
    (.box 3 (.t 1), none),
    (.p 4 .id [.c (.pv (.bool false))], none)])
 (.seq (.seq (.kill [2, 3] [2, 3] (.region [
      (.call 12 7 [] [] [] [], none),
      (.p 13 (.un .not) [.t 12], none)]))
   (.cond (.t 13)
    (.seq (.kill [] [] (.region [
        (.p 4 .id [.c (.pv (.bool false))], none)]))
     .ret)
    .skip))
  (.seq (.kill [2, 3] [2, 3] (.region [
      (.load 14 (some (32, true)) (some 2) (.t 2), none),
      (.call 15 8 [.t 14] [] [] [], none),
      (.load 16 (some (32, true)) (some 3) (.t 3), none),
      (.call 17 8 [.t 16] [] [] [], none),
      (.alloc 5 (.pagg (List.replicate 35 (.int .i64 0))), none),
      (.alloc 6 (.pagg (List.replicate 35 (.int .i64 0))), none),
      (.store (some (35, true)) (some 5) (.t 5) (.t 15), none),
      (.store (some (35, true)) (some 6) (.t 6) (.t 17), none)]))
   (.seq (.seq (.kill [2, 3, 5, 6] [2, 3, 5, 6] (.region [
        (.load 18 (some (35, true)) (some 5) (.t 5), none),
        (.load 19 (some (32, true)) (some 2) (.t 2), none),
        (.call 20 10 [.t 19] [] [] [], none),
        (.call 21 9 [.t 18, .t 20] [] [] [], none),
        (.p 22 (.un .not) [.t 21], none),
        (.p 23 .id [.t 22], none),
        (.load 24 (some (35, true)) (some 6) (.t 6), some (23, false)),
        (.load 25 (some (32, true)) (some 3) (.t 3), some (23, false)),
        (.call 26 10 [.t 25] [] [] [], some (23, false)),
        (.call 27 9 [.t 24, .t 26] [] [] [], some (23, false)),
        (.p 28 (.un .not) [.t 27], some (23, false)),
        (.p 29 .pick [.t 23, .c (.pv (.bool true)), .t 28], none)]))
     (.cond (.t 29)
      (.seq (.kill [] [] (.region [
          (.p 4 .id [.c (.pv (.bool false))], none)]))
       .ret)
      .skip))
    (.seq (.kill [2, 3, 5, 6] [2, 3, 5, 6] (.region [
        (.p 7 .id [.c (.pv (.bool false))], none),
        (.p 8 .id [.c (.pv (.bool false))], none),
        (.p 9 .id [.c (.pv (.bool false))], none)]))
     (.seq (.seq (.kill [2, 3, 5, 6, 7, 8, 9] [2, 3, 5, 6] (.region [
          (.p 30 .id [.c (.pv (.int .i64 0))], none)]))
       (.block 0 (.loop (.kill [2, 3, 5, 6, 7, 8, 9, 30] [2, 3, 5, 6] irLaw04OtsDigits_L1))))
      (.seq (.seq (.kill [2, 3, 7, 8, 9] [2, 3] (.region [
           (.p 54 .id [.c (.pv (.int .i64 0))], none)]))
        (.block 2 (.loop (.kill [2, 3, 7, 8, 9, 54] [2, 3] irLaw04OtsDigits_L2))))
       (.seq (.kill [7, 8, 9] [] (.region [
           (.p 68 .id [.t 9], none),
           (.p 69 .id [.t 7], none),
           (.p 70 (.beq false) [.t 68, .t 69], none),
           (.p 71 .id [.t 70], none),
           (.p 72 .id [.t 9], some (71, true)),
           (.p 73 .id [.t 8], some (71, true)),
           (.p 74 (.beq false) [.t 72, .t 73], some (71, true)),
           (.p 75 .pick [.t 71, .t 74, .c (.pv (.bool false))], none),
           (.p 4 .id [.t 75], none)]))
        .ret))))))))
theorem okLaw04OtsDigits : okFn Try.prog Try.f3 irLaw04OtsDigits [.t 4] [] 2 = true := by kernel_rfl

end Go.Proofs.Ytljnacchbbdahaa
