/- The abstract code of functions, printed by gen_ir.py out of the program's form in Lean; each is checked against it. -/
import Derived.Test.YtgnajpfackfcaaaProg
import Derived.Test.YtgnajpfackfcaaaAbs2
set_option linter.unusedVariables false
set_option linter.unusedSimpArgs false
set_option maxRecDepth 100000
namespace Go.Proofs.Ytgnajpfackfcaaa
open Go.Abs
-- consistorylaw02.wakes
-- consistorylaw02.wakes: args []; lent []; rs [.t 0]; loops: 
def irLaw02Wakes : IR := (.seq (.region [
    (.p 0 .id [.c (.pv (.bool false))], none)])
 (.seq (.kill [] [] (.region [
     (.call 3 8 [.c (.os 5 1 [])] [] [] [], none),
     (.bslice 4 5 1 3 [.int .u8 0] [(0, .c (.pv (.int .u8 97))), (1, .c (.pv (.int .u8 98))), (2, .c (.pv (.int .u8 99)))], none),
     (.fzb 5 4, none),
     (.call 6 8 [.t 5] [] [] [], none),
     (.alloc 1 (.pagg (List.replicate 32 (.int .u8 0))), none),
     (.alloc 2 (.pagg (List.replicate 32 (.int .u8 0))), none),
     (.store (some (32, true)) (some 1) (.t 1) (.t 3), none),
     (.store (some (32, true)) (some 2) (.t 2) (.t 6), none)]))
  (.seq (.kill [1, 2] [1, 2] (.region [
      (.p 7 (.indexAddr (some 32) 1) [.t 1, .c (.pv (.int .i64 0))], none),
      (.load 8 none (some 1) (.t 7), none),
      (.p 9 (.bin .eql) [.t 8, .c (.pv (.int .u8 227))], none),
      (.p 10 .id [.t 9], none),
      (.p 11 (.indexAddr (some 32) 1) [.t 1, .c (.pv (.int .i64 1))], some (10, true)),
      (.load 12 none (some 1) (.t 11), some (10, true)),
      (.p 13 (.bin .eql) [.t 12, .c (.pv (.int .u8 176))], some (10, true)),
      (.p 14 .pick [.t 10, .t 13, .c (.pv (.bool false))], none),
      (.p 15 .id [.t 14], none),
      (.p 16 (.indexAddr (some 32) 1) [.t 1, .c (.pv (.int .i64 2))], some (15, true)),
      (.load 17 none (some 1) (.t 16), some (15, true)),
      (.p 18 (.bin .eql) [.t 17, .c (.pv (.int .u8 196))], some (15, true)),
      (.p 19 .pick [.t 15, .t 18, .c (.pv (.bool false))], none),
      (.p 20 .id [.t 19], none),
      (.p 21 (.indexAddr (some 32) 1) [.t 1, .c (.pv (.int .i64 3))], some (20, true)),
      (.load 22 none (some 1) (.t 21), some (20, true)),
      (.p 23 (.bin .eql) [.t 22, .c (.pv (.int .u8 66))], some (20, true)),
      (.p 24 .pick [.t 20, .t 23, .c (.pv (.bool false))], none),
      (.p 25 .id [.t 24], none),
      (.p 26 (.indexAddr (some 32) 1) [.t 2, .c (.pv (.int .i64 0))], some (25, true)),
      (.load 27 none (some 2) (.t 26), some (25, true)),
      (.p 28 (.bin .eql) [.t 27, .c (.pv (.int .u8 186))], some (25, true)),
      (.p 29 .pick [.t 25, .t 28, .c (.pv (.bool false))], none),
      (.p 30 .id [.t 29], none),
      (.p 31 (.indexAddr (some 32) 1) [.t 2, .c (.pv (.int .i64 1))], some (30, true)),
      (.load 32 none (some 2) (.t 31), some (30, true)),
      (.p 33 (.bin .eql) [.t 32, .c (.pv (.int .u8 120))], some (30, true)),
      (.p 34 .pick [.t 30, .t 33, .c (.pv (.bool false))], none),
      (.p 35 .id [.t 34], none),
      (.p 36 (.indexAddr (some 32) 1) [.t 2, .c (.pv (.int .i64 2))], some (35, true)),
      (.load 37 none (some 2) (.t 36), some (35, true)),
      (.p 38 (.bin .eql) [.t 37, .c (.pv (.int .u8 22))], some (35, true)),
      (.p 39 .pick [.t 35, .t 38, .c (.pv (.bool false))], none),
      (.p 40 .id [.t 39], none),
      (.p 41 (.indexAddr (some 32) 1) [.t 2, .c (.pv (.int .i64 3))], some (40, true)),
      (.load 42 none (some 2) (.t 41), some (40, true)),
      (.p 43 (.bin .eql) [.t 42, .c (.pv (.int .u8 191))], some (40, true)),
      (.p 44 .pick [.t 40, .t 43, .c (.pv (.bool false))], none),
      (.p 0 .id [.t 44], none)]))
   .ret)))
theorem okLaw02Wakes : okFn Try.prog Try.f7 irLaw02Wakes [.t 0] [] 0 = true := by kernel_rfl

-- consistorylaw02.ShaSum
-- consistorylaw02.ShaSum: args [22]; lent []; rs [.t 2]; loops: 
def irLaw02ShaSum : IR := (.seq (.region [
    (.p 2 .id [.c (.pv (.bool false))], none)])
 (.seq (.seq (.kill [0] [] (.region [
      (.call 4 7 [] [] [] [], none),
      (.p 5 (.un .not) [.t 4], none)]))
   (.cond (.t 5)
    (.seq (.kill [] [] (.region [
        (.p 2 .id [.c (.pv (.bool false))], none)]))
     .ret)
    .skip))
  (.seq (.seq (.kill [0] [] (.region [
       (.p 6 .id [.t 0], none),
       (.p 7 (.len none) [.t 6], none),
       (.p 8 (.bin .gtr) [.t 7, .c (.pv (.int .i64 3000))], none)]))
    (.cond (.t 8)
     (.seq (.kill [] [] (.region [
         (.p 2 .id [.c (.pv (.bool true))], none)]))
      .ret)
     .skip))
   (.seq (.kill [0] [] (.region [
       (.bslice 9 5 1 0 [.int .u8 0] [], none),
       (.p 10 .id [.t 0], none),
       (.app 11 5 1 9 none (.t 10), none),
       (.mv 3 11, none)]))
    (.seq (.kill [0, 3] [] (.region [
        (.p 12 .id [.t 3], none),
        (.call 13 8 [.t 12] [] [] [], none),
        (.p 14 .id [.t 0], none),
        (.call 15 9 [.t 14] [] [] [], none),
        (.p 16 (.aeq false 32 .u8) [.t 13, .t 15], none),
        (.p 17 .id [.t 16], none),
        (.p 18 .id [.t 3], some (17, true)),
        (.p 19 .id [.t 0], some (17, true)),
        (.call 20 10 [.t 18, .t 19] [] [] [], some (17, true)),
        (.p 21 .pick [.t 17, .t 20, .c (.pv (.bool false))], none),
        (.p 2 .id [.t 21], none)]))
     .ret)))))
theorem okLaw02ShaSum : okFn Try.prog Try.f3 irLaw02ShaSum [.t 2] [] 1 = true := by kernel_rfl

-- consistorylaw02.ShaAll
-- consistorylaw02.ShaAll: args [32, 25, 25]; lent []; rs [.t 6]; loops: L1 keeps [0, 4, 5, 14, 15] []
def irLaw02ShaAll_L1 : IR := (.seq (.kill [0, 4, 5, 14, 15] [] (.region [
     (.p 16 (.bin .lss) [.t 15, .t 14], none)]))
  (.seq (.cond (.t 16)
    .skip
    (.exit 0))
   (.seq (.block 1 (.seq (.kill [0, 4, 5, 14, 15] [] (.region [
         (.p 17 .id [.t 15], none),
         (.p 7 .id [.t 17], none)]))
      (.seq (.kill [0, 4, 5, 7, 14, 15] [] (.region [
          (.p 18 .id [.t 0], none),
          (.p 19 .id [.t 7], none),
          (.p 20 (.indexAddr none 1) [.t 18, .t 19], none),
          (.load 21 none (some 9999) (.t 20), none),
          (.p 22 (.len none) [.t 21], none),
          (.p 23 (.bin .gtr) [.t 22, .c (.pv (.int .i64 200))], none)]))
       (.cond (.t 23)
        (.seq (.kill [] [] (.region [
            (.p 6 .id [.c (.pv (.bool true))], none)]))
         .ret)
        .skip))))
    (.kill [0, 4, 5, 14, 15] [] (.region [
       (.p 24 (.bin .add) [.t 15, .c (.pv (.int .i64 1))], none),
       (.p 15 .id [.t 24], none)])))))
def irLaw02ShaAll : IR := (.seq (.region [
    (.rbox 4 (.t 1), none),
    (.rbox 5 (.t 2), none),
    (.p 6 .id [.c (.pv (.bool false))], none)])
 (.seq (.seq (.kill [0, 4, 5] [] (.region [
      (.call 8 7 [] [] [] [], none),
      (.p 9 (.un .not) [.t 8], none)]))
   (.cond (.t 9)
    (.seq (.kill [] [] (.region [
        (.p 6 .id [.c (.pv (.bool false))], none)]))
     .ret)
    .skip))
  (.seq (.seq (.kill [0, 4, 5] [] (.region [
       (.p 10 .id [.t 0], none),
       (.p 11 (.len none) [.t 10], none),
       (.p 12 (.bin .gtr) [.t 11, .c (.pv (.int .i64 30))], none)]))
    (.cond (.t 12)
     (.seq (.kill [] [] (.region [
         (.p 6 .id [.c (.pv (.bool true))], none)]))
      .ret)
     .skip))
   (.seq (.seq (.kill [0, 4, 5] [] (.region [
        (.p 13 .id [.t 0], none),
        (.p 14 (.len none) [.t 13], none),
        (.p 15 .id [.c (.pv (.int .i64 0))], none)]))
     (.block 0 (.loop (.kill [0, 4, 5, 14, 15] [] irLaw02ShaAll_L1))))
    (.seq (.kill [0, 4, 5] [] (.region [
        (.p 25 .id [.t 0], none),
        (.call 26 13 [.t 25] [] [] [], none),
        (.p 27 .id [.t 0], none),
        (.call 28 14 [.t 27] [] [] [], none),
        (.p 29 (.aeq false 32 .u8) [.t 26, .t 28], none),
        (.p 30 .id [.t 29], none),
        (.load 31 (some (32, true)) (some 9999) (.t 4), some (30, true)),
        (.load 32 (some (32, true)) (some 9999) (.t 5), some (30, true)),
        (.call 33 16 [.t 31, .t 32] [] [] [], some (30, true)),
        (.load 34 (some (32, true)) (some 9999) (.t 4), some (30, true)),
        (.load 35 (some (32, true)) (some 9999) (.t 5), some (30, true)),
        (.call 36 17 [.t 34, .t 35] [] [] [], some (30, true)),
        (.p 37 (.aeq false 32 .u8) [.t 33, .t 36], some (30, true)),
        (.p 38 .pick [.t 30, .t 37, .c (.pv (.bool false))], none),
        (.p 6 .id [.t 38], none)]))
     .ret)))))
theorem okLaw02ShaAll : okFn Try.prog Try.f6 irLaw02ShaAll [.t 6] [] 3 = true := by kernel_rfl

-- consistorylaw02.ShaChain
-- consistorylaw02.ShaChain: args [25, 3, 3]; lent []; rs [.t 6]; loops: 
def irLaw02ShaChain : IR := (.seq (.region [
    (.rbox 3 (.t 0), none),
    (.p 6 .id [.c (.pv (.bool false))], none)])
 (.seq (.seq (.kill [1, 2, 3] [] (.region [
      (.call 8 7 [] [] [] [], none),
      (.p 9 (.un .not) [.t 8], none)]))
   (.cond (.t 9)
    (.seq (.kill [] [] (.region [
        (.p 6 .id [.c (.pv (.bool false))], none)]))
     .ret)
    .skip))
  (.seq (.seq (.kill [1, 2, 3] [] (.region [
       (.p 10 .id [.t 1], none),
       (.p 11 (.bin .gtr) [.t 10, .c (.pv (.int .i64 200))], none),
       (.p 12 .id [.t 11], none),
       (.p 13 .id [.t 2], some (12, false)),
       (.p 14 (.bin .gtr) [.t 13, .c (.pv (.int .i64 200))], some (12, false)),
       (.p 15 .pick [.t 12, .c (.pv (.bool true)), .t 14], none)]))
    (.cond (.t 15)
     (.seq (.kill [] [] (.region [
         (.p 6 .id [.c (.pv (.bool true))], none)]))
      .ret)
     .skip))
   (.seq (.kill [1, 2, 3] [] (.region [
       (.load 16 (some (32, true)) (some 9999) (.t 3), none),
       (.p 17 .id [.t 1], none),
       (.call 18 11 [.t 16, .t 17] [] [] [], none),
       (.alloc 7 (.pagg (List.replicate 32 (.int .u8 0))), none),
       (.store (some (32, true)) (some 7) (.t 7) (.t 18), none)]))
    (.seq (.kill [1, 2, 3, 7] [7] (.region [
        (.load 19 (some (32, true)) (some 7) (.t 7), none),
        (.load 20 (some (32, true)) (some 9999) (.t 3), none),
        (.p 21 .id [.t 1], none),
        (.call 22 12 [.t 20, .t 21] [] [] [], none),
        (.p 23 (.aeq false 32 .u8) [.t 19, .t 22], none),
        (.p 24 .id [.t 23], none),
        (.load 25 (some (32, true)) (some 7) (.t 7), some (24, true)),
        (.p 26 .id [.t 2], some (24, true)),
        (.call 27 11 [.t 25, .t 26] [] [] [], some (24, true)),
        (.load 28 (some (32, true)) (some 9999) (.t 3), some (24, true)),
        (.p 29 .id [.t 1], some (24, true)),
        (.p 30 (.mm true) [.t 29, .c (.pv (.int .i64 0))], some (24, true)),
        (.p 31 .id [.t 2], some (24, true)),
        (.p 32 (.mm true) [.t 31, .c (.pv (.int .i64 0))], some (24, true)),
        (.p 33 (.bin .add) [.t 30, .t 32], some (24, true)),
        (.call 34 11 [.t 28, .t 33] [] [] [], some (24, true)),
        (.p 35 (.aeq false 32 .u8) [.t 27, .t 34], some (24, true)),
        (.p 36 .pick [.t 24, .t 35, .c (.pv (.bool false))], none),
        (.p 6 .id [.t 36], none)]))
     .ret)))))
theorem okLaw02ShaChain : okFn Try.prog Try.f4 irLaw02ShaChain [.t 6] [] 3 = true := by kernel_rfl

-- consistorylaw02.ShaApart
-- consistorylaw02.ShaApart: args [22, 22, 5]; lent []; rs [.t 6]; loops: 
def irLaw02ShaApart : IR := (.seq (.region [
    (.p 6 .id [.c (.pv (.bool false))], none)])
 (.seq (.seq (.kill [0, 1, 2] [] (.region [
      (.call 12 7 [] [] [] [], none),
      (.p 13 (.un .not) [.t 12], none)]))
   (.cond (.t 13)
    (.seq (.kill [] [] (.region [
        (.p 6 .id [.c (.pv (.bool false))], none)]))
     .ret)
    .skip))
  (.seq (.seq (.kill [0, 1, 2] [] (.region [
       (.p 14 .id [.t 0], none),
       (.p 15 (.len none) [.t 14], none),
       (.p 16 (.bin .gtr) [.t 15, .c (.pv (.int .i64 200))], none),
       (.p 17 .id [.t 16], none),
       (.p 18 .id [.t 1], some (17, false)),
       (.p 19 (.len none) [.t 18], some (17, false)),
       (.p 20 (.bin .gtr) [.t 19, .c (.pv (.int .i64 200))], some (17, false)),
       (.p 21 .pick [.t 17, .c (.pv (.bool true)), .t 20], none),
       (.p 22 .id [.t 21], none),
       (.p 23 .id [.t 1], some (22, false)),
       (.p 24 (.len none) [.t 23], some (22, false)),
       (.p 25 (.bin .eql) [.t 24, .c (.pv (.int .i64 0))], some (22, false)),
       (.p 26 .pick [.t 22, .c (.pv (.bool true)), .t 25], none)]))
    (.cond (.t 26)
     (.seq (.kill [] [] (.region [
         (.p 6 .id [.c (.pv (.bool true))], none)]))
      .ret)
     .skip))
   (.seq (.kill [0, 1, 2] [] (.region [
       (.p 27 .id [.t 2], none),
       (.p 28 (.conv .i64) [.t 27], none),
       (.p 29 .id [.t 1], none),
       (.p 30 (.len none) [.t 29], none),
       (.p 31 (.bin .rem) [.t 28, .t 30], none),
       (.p 32 (.bin .add) [.c (.pv (.int .i64 1)), .t 31], none),
       (.p 7 .id [.t 32], none)]))
    (.seq (.kill [0, 1, 7] [] (.region [
        (.bslice 33 5 1 0 [.int .u8 0] [], none),
        (.p 34 .id [.t 0], none),
        (.app 35 5 1 33 none (.t 34), none),
        (.p 36 .id [.t 1], none),
        (.p 37 .id [.t 7], none),
        (.p 38 (.slice none 1 false true) [.t 36, .t 37], none),
        (.app 39 5 1 35 none (.t 38), none),
        (.p 40 .id [.t 1], none),
        (.p 41 .id [.t 7], none),
        (.p 42 (.slice none 1 true false) [.t 40, .t 41], none),
        (.mv 8 39, none),
        (.mv 9 42, none)]))
     (.seq (.kill [0, 1, 8, 9] [] (.region [
         (.p 43 .id [.t 0], none),
         (.p 44 .id [.t 1], none),
         (.bslice 45 22 1 2 [.sl 1 []] [(0, .t 43), (1, .t 44)], none),
         (.call 46 13 [.t 45] [] [] [], none),
         (.p 47 .id [.t 8], none),
         (.p 48 .id [.t 9], none),
         (.bslice 49 22 1 2 [.sl 1 []] [(0, .t 47), (1, .t 48)], none),
         (.call 50 13 [.t 49] [] [] [], none),
         (.alloc 10 (.pagg (List.replicate 32 (.int .u8 0))), none),
         (.alloc 11 (.pagg (List.replicate 32 (.int .u8 0))), none),
         (.store (some (32, true)) (some 10) (.t 10) (.t 46), none),
         (.store (some (32, true)) (some 11) (.t 11) (.t 50), none)]))
      (.seq (.kill [0, 1, 8, 9, 10, 11] [10, 11] (.region [
          (.load 51 (some (32, true)) (some 10) (.t 10), none),
          (.p 52 .id [.t 0], none),
          (.mv 53 1, none),
          (.bslice 54 22 1 2 [.sl 1 []] [(0, .t 52), (1, .t 53)], none),
          (.call 55 14 [.t 54] [] [] [], none),
          (.p 56 (.aeq false 32 .u8) [.t 51, .t 55], none),
          (.p 57 .id [.t 56], none),
          (.load 58 (some (32, true)) (some 11) (.t 11), some (57, true)),
          (.p 59 .id [.t 8], some (57, true)),
          (.mv 60 9, some (57, true)),
          (.bslice 61 22 1 2 [.sl 1 []] [(0, .t 59), (1, .t 60)], some (57, true)),
          (.call 62 14 [.t 61] [] [] [], some (57, true)),
          (.p 63 (.aeq false 32 .u8) [.t 58, .t 62], some (57, true)),
          (.p 64 .pick [.t 57, .t 63, .c (.pv (.bool false))], none),
          (.p 65 .id [.t 64], none),
          (.p 66 .id [.t 0], some (65, true)),
          (.call 67 15 [.t 66] [] [] [], some (65, true)),
          (.p 68 .id [.t 8], some (65, true)),
          (.call 69 15 [.t 68] [] [] [], some (65, true)),
          (.call 70 10 [.t 67, .t 69] [] [] [], some (65, true)),
          (.p 71 (.un .not) [.t 70], some (65, true)),
          (.p 72 .pick [.t 65, .t 71, .c (.pv (.bool false))], none),
          (.p 6 .id [.t 72], none)]))
       .ret)))))))
theorem okLaw02ShaApart : okFn Try.prog Try.f5 irLaw02ShaApart [.t 6] [] 3 = true := by kernel_rfl

end Go.Proofs.Ytgnajpfackfcaaa
