/- The abstract code of functions, printed by gen_ir.py out of the program's form in Lean; each is checked against it. -/
import Derived.Test.YtljjmcnblcklhaaProg
import Derived.Test.YtljjmcnblcklhaaAbs2
set_option linter.unusedVariables false
set_option linter.unusedSimpArgs false
set_option maxRecDepth 100000
namespace Go.Proofs.Ytljjmcnblcklhaa
open Go.Abs
-- consistorylaw03.wakes
-- consistorylaw03.wakes: args []; lent []; rs [.t 0]; loops: 
def irLaw03Wakes : IR := (.seq (.region [
    (.p 0 .id [.c (.pv (.bool false))], none)])
 (.seq (.kill [] [] (.region [
     (.bslice 2 5 1 4 [.int .u8 0] [(0, .c (.pv (.int .u8 74))), (1, .c (.pv (.int .u8 101))), (2, .c (.pv (.int .u8 102))), (3, .c (.pv (.int .u8 101)))], none),
     (.fzb 3 2, none),
     (.bslice 4 5 1 28 [.int .u8 0] [(0, .c (.pv (.int .u8 119))), (1, .c (.pv (.int .u8 104))), (2, .c (.pv (.int .u8 97))), (3, .c (.pv (.int .u8 116))), (4, .c (.pv (.int .u8 32))), (5, .c (.pv (.int .u8 100))), (6, .c (.pv (.int .u8 111))), (7, .c (.pv (.int .u8 32))), (8, .c (.pv (.int .u8 121))), (9, .c (.pv (.int .u8 97))), (10, .c (.pv (.int .u8 32))), (11, .c (.pv (.int .u8 119))), (12, .c (.pv (.int .u8 97))), (13, .c (.pv (.int .u8 110))), (14, .c (.pv (.int .u8 116))), (15, .c (.pv (.int .u8 32))), (16, .c (.pv (.int .u8 102))), (17, .c (.pv (.int .u8 111))), (18, .c (.pv (.int .u8 114))), (19, .c (.pv (.int .u8 32))), (20, .c (.pv (.int .u8 110))), (21, .c (.pv (.int .u8 111))), (22, .c (.pv (.int .u8 116))), (23, .c (.pv (.int .u8 104))), (24, .c (.pv (.int .u8 105))), (25, .c (.pv (.int .u8 110))), (26, .c (.pv (.int .u8 103))), (27, .c (.pv (.int .u8 63)))], none),
     (.fzb 5 4, none),
     (.call 6 13 [.t 3, .t 5] [] [] [], none),
     (.alloc 1 (.pagg (List.replicate 32 (.int .u8 0))), none),
     (.store (some (32, true)) (some 1) (.t 1) (.t 6), none)]))
  (.seq (.kill [1] [1] (.region [
      (.p 7 (.indexAddr (some 32) 1) [.t 1, .c (.pv (.int .i64 0))], none),
      (.load 8 none (some 1) (.t 7), none),
      (.p 9 (.bin .eql) [.t 8, .c (.pv (.int .u8 91))], none),
      (.p 10 .id [.t 9], none),
      (.p 11 (.indexAddr (some 32) 1) [.t 1, .c (.pv (.int .i64 1))], some (10, true)),
      (.load 12 none (some 1) (.t 11), some (10, true)),
      (.p 13 (.bin .eql) [.t 12, .c (.pv (.int .u8 220))], some (10, true)),
      (.p 14 .pick [.t 10, .t 13, .c (.pv (.bool false))], none),
      (.p 15 .id [.t 14], none),
      (.p 16 (.indexAddr (some 32) 1) [.t 1, .c (.pv (.int .i64 2))], some (15, true)),
      (.load 17 none (some 1) (.t 16), some (15, true)),
      (.p 18 (.bin .eql) [.t 17, .c (.pv (.int .u8 193))], some (15, true)),
      (.p 19 .pick [.t 15, .t 18, .c (.pv (.bool false))], none),
      (.p 20 .id [.t 19], none),
      (.p 21 (.indexAddr (some 32) 1) [.t 1, .c (.pv (.int .i64 3))], some (20, true)),
      (.load 22 none (some 1) (.t 21), some (20, true)),
      (.p 23 (.bin .eql) [.t 22, .c (.pv (.int .u8 70))], some (20, true)),
      (.p 24 .pick [.t 20, .t 23, .c (.pv (.bool false))], none),
      (.p 0 .id [.t 24], none)]))
   .ret)))
theorem okLaw03Wakes : okFn Try.prog Try.f7 irLaw03Wakes [.t 0] [] 0 = true := by kernel_rfl

-- consistorylaw03.MacDerive
-- consistorylaw03.MacDerive: args [23, 3, 3]; lent []; rs [.t 6]; loops: 
def irLaw03MacDerive : IR := (.seq (.region [
    (.rbox 3 (.t 0), none),
    (.p 6 .id [.c (.pv (.bool false))], none)])
 (.seq (.seq (.kill [1, 2, 3] [] (.region [
      (.call 8 7 [] [] [] [], none),
      (.p 9 (.un .not) [.t 8], none)]))
   (.cond (.t 9)
    (.seq (.kill [] [] (.region [
        (.p 6 .id [.c (.pv (.bool false))], none)]))
     .ret)
    .skip))
  (.seq (.kill [1, 2, 3] [] (.region [
      (.load 10 (some (32, true)) (some 9999) (.t 3), none),
      (.p 11 .id [.t 1], none),
      (.p 12 .id [.t 2], none),
      (.call 13 8 [.t 10, .t 11, .t 12] [] [] [], none),
      (.mv 7 13, none)]))
   (.seq (.kill [1, 2, 3, 7] [] (.region [
       (.p 14 .id [.t 7], none),
       (.p 15 (.len none) [.t 14], none),
       (.p 16 (.bin .eql) [.t 15, .c (.pv (.int .i64 32))], none),
       (.p 17 .id [.t 16], none),
       (.p 18 .id [.t 7], some (17, true)),
       (.load 19 (some (32, true)) (some 9999) (.t 3), some (17, true)),
       (.p 20 .id [.t 1], some (17, true)),
       (.p 21 .id [.t 2], some (17, true)),
       (.call 22 10 [.t 19, .t 20, .t 21] [] [] [], some (17, true)),
       (.call 23 9 [.t 18, .t 22] [] [] [], some (17, true)),
       (.p 24 .pick [.t 17, .t 23, .c (.pv (.bool false))], none),
       (.p 6 .id [.t 24], none)]))
    .ret))))
theorem okLaw03MacDerive : okFn Try.prog Try.f3 irLaw03MacDerive [.t 6] [] 3 = true := by kernel_rfl

-- consistorylaw03.MacVector
-- consistorylaw03.MacVector: args [29, 25]; lent []; rs [.t 4]; loops: L1 keeps [0, 1, 19, 20] []; L2 keeps [0, 1, 6, 39, 40] []
def irLaw03MacVector_L1 : IR := (.seq (.kill [0, 1, 19, 20] [] (.region [
     (.p 21 (.bin .lss) [.t 20, .t 19], none)]))
  (.seq (.cond (.t 21)
    .skip
    (.exit 0))
   (.seq (.block 1 (.seq (.kill [0, 1, 19, 20] [] (.region [
         (.p 22 .id [.t 20], none),
         (.p 5 .id [.t 22], none)]))
      (.seq (.kill [0, 1, 5, 19, 20] [] (.region [
          (.p 23 .id [.t 0], none),
          (.p 24 .id [.t 5], none),
          (.p 25 (.indexAddr none 1) [.t 23, .t 24], none),
          (.load 26 none (some 9999) (.t 25), none),
          (.p 27 (.len none) [.t 26], none),
          (.p 28 (.bin .gtr) [.t 27, .c (.pv (.int .i64 300))], none)]))
       (.cond (.t 28)
        (.seq (.kill [] [] (.region [
            (.p 4 .id [.c (.pv (.bool true))], none)]))
         .ret)
        .skip))))
    (.kill [0, 1, 19, 20] [] (.region [
       (.p 29 (.bin .add) [.t 20, .c (.pv (.int .i64 1))], none),
       (.p 20 .id [.t 29], none)])))))
def irLaw03MacVector_L2 : IR := (.seq (.kill [0, 1, 6, 39, 40] [] (.region [
     (.p 41 (.bin .lss) [.t 40, .t 39], none)]))
  (.seq (.cond (.t 41)
    .skip
    (.exit 2))
   (.seq (.block 3 (.seq (.kill [0, 1, 6, 39, 40] [] (.region [
         (.p 42 .id [.t 40], none),
         (.p 7 .id [.t 42], none)]))
      (.seq (.kill [0, 1, 6, 7, 39, 40] [] (.region [
          (.p 43 .id [.t 6], none),
          (.p 44 .id [.t 7], none),
          (.p 45 (.indexAddr none 32) [.t 43, .t 44], none),
          (.load 46 (some (32, true)) (some 9999) (.t 45), none),
          (.p 47 .id [.t 0], none),
          (.p 48 .id [.t 7], none),
          (.p 49 (.indexAddr none 1) [.t 47, .t 48], none),
          (.load 50 none (some 9999) (.t 49), none),
          (.p 51 .id [.t 1], none),
          (.call 52 12 [.t 50, .t 51] [] [] [], none),
          (.p 53 (.aeq true 32 .u8) [.t 46, .t 52], none)]))
       (.cond (.t 53)
        (.seq (.kill [] [] (.region [
            (.p 4 .id [.c (.pv (.bool false))], none)]))
         .ret)
        .skip))))
    (.kill [0, 1, 6, 39, 40] [] (.region [
       (.p 54 (.bin .add) [.t 40, .c (.pv (.int .i64 1))], none),
       (.p 40 .id [.t 54], none)])))))
def irLaw03MacVector : IR := (.seq (.region [
    (.p 4 .id [.c (.pv (.bool false))], none)])
 (.seq (.seq (.kill [0, 1] [] (.region [
      (.call 8 7 [] [] [] [], none),
      (.p 9 (.un .not) [.t 8], none)]))
   (.cond (.t 9)
    (.seq (.kill [] [] (.region [
        (.p 4 .id [.c (.pv (.bool false))], none)]))
     .ret)
    .skip))
  (.seq (.seq (.kill [0, 1] [] (.region [
       (.p 10 .id [.t 0], none),
       (.p 11 (.len none) [.t 10], none),
       (.p 12 (.bin .gtr) [.t 11, .c (.pv (.int .i64 20))], none),
       (.p 13 .id [.t 12], none),
       (.p 14 .id [.t 1], some (13, false)),
       (.p 15 (.len none) [.t 14], some (13, false)),
       (.p 16 (.bin .gtr) [.t 15, .c (.pv (.int .i64 500))], some (13, false)),
       (.p 17 .pick [.t 13, .c (.pv (.bool true)), .t 16], none)]))
    (.cond (.t 17)
     (.seq (.kill [] [] (.region [
         (.p 4 .id [.c (.pv (.bool true))], none)]))
      .ret)
     .skip))
   (.seq (.seq (.kill [0, 1] [] (.region [
        (.p 18 .id [.t 0], none),
        (.p 19 (.len none) [.t 18], none),
        (.p 20 .id [.c (.pv (.int .i64 0))], none)]))
     (.block 0 (.loop (.kill [0, 1, 19, 20] [] irLaw03MacVector_L1))))
    (.seq (.kill [0, 1] [] (.region [
        (.p 30 .id [.t 0], none),
        (.p 31 .id [.t 1], none),
        (.call 32 11 [.t 30, .t 31] [] [] [], none),
        (.mv 6 32, none)]))
     (.seq (.seq (.kill [0, 1, 6] [] (.region [
          (.p 33 .id [.t 6], none),
          (.p 34 (.len none) [.t 33], none),
          (.p 35 .id [.t 0], none),
          (.p 36 (.len none) [.t 35], none),
          (.p 37 (.bin .neq) [.t 34, .t 36], none)]))
       (.cond (.t 37)
        (.seq (.kill [] [] (.region [
            (.p 4 .id [.c (.pv (.bool false))], none)]))
         .ret)
        .skip))
      (.seq (.seq (.kill [0, 1, 6] [] (.region [
           (.p 38 .id [.t 6], none),
           (.p 39 (.len none) [.t 38], none),
           (.p 40 .id [.c (.pv (.int .i64 0))], none)]))
        (.block 2 (.loop (.kill [0, 1, 6, 39, 40] [] irLaw03MacVector_L2))))
       (.seq (.kill [] [] (.region [
           (.p 4 .id [.c (.pv (.bool true))], none)]))
        .ret))))))))
theorem okLaw03MacVector : okFn Try.prog Try.f4 irLaw03MacVector [.t 4] [] 2 = true := by kernel_rfl

-- consistorylaw03.MacTag
-- consistorylaw03.MacTag: args [25, 25]; lent []; rs [.t 4]; loops: 
def irLaw03MacTag : IR := (.seq (.region [
    (.p 4 .id [.c (.pv (.bool false))], none)])
 (.seq (.seq (.kill [0, 1] [] (.region [
      (.call 8 7 [] [] [] [], none),
      (.p 9 (.un .not) [.t 8], none)]))
   (.cond (.t 9)
    (.seq (.kill [] [] (.region [
        (.p 4 .id [.c (.pv (.bool false))], none)]))
     .ret)
    .skip))
  (.seq (.seq (.kill [0, 1] [] (.region [
       (.p 10 .id [.t 0], none),
       (.p 11 (.len none) [.t 10], none),
       (.p 12 (.bin .gtr) [.t 11, .c (.pv (.int .i64 1000))], none),
       (.p 13 .id [.t 12], none),
       (.p 14 .id [.t 1], some (13, false)),
       (.p 15 (.len none) [.t 14], some (13, false)),
       (.p 16 (.bin .gtr) [.t 15, .c (.pv (.int .i64 2000))], some (13, false)),
       (.p 17 .pick [.t 13, .c (.pv (.bool true)), .t 16], none)]))
    (.cond (.t 17)
     (.seq (.kill [] [] (.region [
         (.p 4 .id [.c (.pv (.bool true))], none)]))
      .ret)
     .skip))
   (.seq (.kill [0, 1] [] (.region [
       (.bslice 18 5 1 0 [.int .u8 0] [], none),
       (.p 19 .id [.t 0], none),
       (.app 20 5 1 18 none (.t 19), none),
       (.bslice 21 5 1 0 [.int .u8 0] [], none),
       (.p 22 .id [.t 1], none),
       (.app 23 5 1 21 none (.t 22), none),
       (.mv 5 20, none),
       (.mv 6 23, none)]))
    (.seq (.kill [0, 1, 5, 6] [] (.region [
        (.p 24 .id [.t 5], none),
        (.p 25 .id [.t 6], none),
        (.call 26 13 [.t 24, .t 25] [] [] [], none),
        (.alloc 7 (.pagg (List.replicate 32 (.int .u8 0))), none),
        (.store (some (32, true)) (some 7) (.t 7) (.t 26), none)]))
     (.seq (.kill [0, 1, 5, 6, 7] [7] (.region [
         (.load 27 (some (32, true)) (some 7) (.t 7), none),
         (.p 28 .id [.t 0], none),
         (.p 29 .id [.t 1], none),
         (.call 30 12 [.t 28, .t 29] [] [] [], none),
         (.p 31 (.aeq false 32 .u8) [.t 27, .t 30], none),
         (.p 32 .id [.t 31], none),
         (.p 33 .id [.t 5], some (32, true)),
         (.p 34 .id [.t 6], some (32, true)),
         (.load 35 (some (32, true)) (some 7) (.t 7), some (32, true)),
         (.call 36 14 [.t 33, .t 34, .t 35] [] [] [], some (32, true)),
         (.p 37 .pick [.t 32, .t 36, .c (.pv (.bool false))], none),
         (.p 38 .id [.t 37], none),
         (.p 39 .id [.t 5], some (38, true)),
         (.p 40 .id [.t 0], some (38, true)),
         (.call 41 9 [.t 39, .t 40] [] [] [], some (38, true)),
         (.p 42 .pick [.t 38, .t 41, .c (.pv (.bool false))], none),
         (.p 43 .id [.t 42], none),
         (.p 44 .id [.t 6], some (43, true)),
         (.p 45 .id [.t 1], some (43, true)),
         (.call 46 9 [.t 44, .t 45] [] [] [], some (43, true)),
         (.p 47 .pick [.t 43, .t 46, .c (.pv (.bool false))], none),
         (.p 4 .id [.t 47], none)]))
      .ret))))))
theorem okLaw03MacTag : okFn Try.prog Try.f5 irLaw03MacTag [.t 4] [] 2 = true := by kernel_rfl

-- consistorylaw03.MacCheck
-- consistorylaw03.MacCheck: args [25, 25, 23]; lent []; rs [.t 6]; loops: 
def irLaw03MacCheck : IR := (.seq (.region [
    (.rbox 5 (.t 2), none),
    (.p 6 .id [.c (.pv (.bool false))], none)])
 (.seq (.seq (.kill [0, 1, 5] [] (.region [
      (.call 7 7 [] [] [] [], none),
      (.p 8 (.un .not) [.t 7], none)]))
   (.cond (.t 8)
    (.seq (.kill [] [] (.region [
        (.p 6 .id [.c (.pv (.bool false))], none)]))
     .ret)
    .skip))
  (.seq (.seq (.kill [0, 1, 5] [] (.region [
       (.p 9 .id [.t 0], none),
       (.p 10 (.len none) [.t 9], none),
       (.p 11 (.bin .gtr) [.t 10, .c (.pv (.int .i64 1000))], none),
       (.p 12 .id [.t 11], none),
       (.p 13 .id [.t 1], some (12, false)),
       (.p 14 (.len none) [.t 13], some (12, false)),
       (.p 15 (.bin .gtr) [.t 14, .c (.pv (.int .i64 2000))], some (12, false)),
       (.p 16 .pick [.t 12, .c (.pv (.bool true)), .t 15], none)]))
    (.cond (.t 16)
     (.seq (.kill [] [] (.region [
         (.p 6 .id [.c (.pv (.bool true))], none)]))
      .ret)
     .skip))
   (.seq (.kill [0, 1, 5] [] (.region [
       (.p 17 .id [.t 0], none),
       (.p 18 .id [.t 1], none),
       (.load 19 (some (32, true)) (some 9999) (.t 5), none),
       (.call 20 14 [.t 17, .t 18, .t 19] [] [] [], none),
       (.load 21 (some (32, true)) (some 9999) (.t 5), none),
       (.p 22 .id [.t 0], none),
       (.p 23 .id [.t 1], none),
       (.call 24 12 [.t 22, .t 23] [] [] [], none),
       (.p 25 (.aeq false 32 .u8) [.t 21, .t 24], none),
       (.p 26 (.beq false) [.t 20, .t 25], none),
       (.p 6 .id [.t 26], none)]))
    .ret))))
theorem okLaw03MacCheck : okFn Try.prog Try.f6 irLaw03MacCheck [.t 6] [] 3 = true := by kernel_rfl

-- mac.Derive
-- mac.Derive: args [23, 3, 3]; lent []; rs [.t 6]; loops: 
def irMacDerive : IR := (.seq (.region [
    (.rbox 3 (.t 0), none),
    (.p 6 .id [.c (.os 5 1 [])], none)])
 (.seq (.kill [1, 2, 3] [] (.region [
     (.p 9 (.slice (some 32) 1 false false) [.t 3], none),
     (.p 10 .id [.t 1], none),
     (.p 11 (.conv .u64) [.t 10], none),
     (.call 12 15 [.t 9, .t 11, .c (.pv (.int .i64 8))] [] [] [], none),
     (.mv 7 12, none)]))
  (.seq (.kill [2, 7] [] (.region [
      (.mv 13 7, none),
      (.p 14 .id [.t 2], none),
      (.p 15 (.conv .u64) [.t 14], none),
      (.call 16 15 [.t 13, .t 15, .c (.pv (.int .i64 8))] [] [] [], none),
      (.call 17 16 [.t 16] [] [] [], none),
      (.alloc 8 (.pagg (List.replicate 32 (.int .u8 0))), none),
      (.store (some (32, true)) (some 8) (.t 8) (.t 17), none)]))
   (.seq (.kill [8] [8] (.region [
       (.p 18 (.slice (some 32) 1 false false) [.t 8], none),
       (.mv 6 18, none)]))
    .ret))))
theorem okMacDerive : okFn Try.prog Try.f8 irMacDerive [.t 6] [] 3 = true := by kernel_rfl

-- consistoryref03.Derive
-- consistoryref03.Derive: args [23, 3, 3]; lent []; rs [.t 6]; loops: 
def irRef03Derive : IR := (.seq (.region [
    (.rbox 3 (.t 0), none),
    (.p 6 .id [.c (.os 5 1 [])], none)])
 (.seq (.kill [1, 2, 3] [] (.region [
     (.load 8 (some (32, true)) (some 9999) (.t 3), none),
     (.call 9 17 [.t 8] [] [] [], none),
     (.mv 7 9, none)]))
  (.seq (.kill [1, 2, 7] [] (.region [
      (.mv 10 7, none),
      (.p 11 .id [.t 1], none),
      (.p 12 (.conv .u64) [.t 11], none),
      (.call 13 18 [.t 12, .c (.pv (.int .i64 8))] [] [] [], none),
      (.app 14 5 1 10 none (.t 13), none),
      (.mv 7 14, none)]))
   (.seq (.kill [2, 7] [] (.region [
       (.mv 15 7, none),
       (.p 16 .id [.t 2], none),
       (.p 17 (.conv .u64) [.t 16], none),
       (.call 18 18 [.t 17, .c (.pv (.int .i64 8))] [] [] [], none),
       (.app 19 5 1 15 none (.t 18), none),
       (.mv 7 19, none)]))
    (.seq (.kill [7] [] (.region [
        (.mv 20 7, none),
        (.call 21 19 [.t 20] [] [] [], none),
        (.call 22 17 [.t 21] [] [] [], none),
        (.mv 6 22, none)]))
     .ret)))))
theorem okRef03Derive : okFn Try.prog Try.f10 irRef03Derive [.t 6] [] 3 = true := by kernel_rfl

-- mac.Vector
-- mac.Vector: args [29, 25]; lent []; rs [.t 4]; loops: L1 keeps [1, 5, 8, 9, 10] []
def irMacVector_L1 : IR := (.seq (.kill [1, 5, 8, 9, 10] [] (.region [
     (.p 11 (.bin .lss) [.t 10, .t 9], none)]))
  (.seq (.cond (.t 11)
    .skip
    (.exit 0))
   (.seq (.block 1 (.seq (.kill [1, 5, 8, 9, 10] [] (.region [
         (.p 12 (.indexAddr none 1) [.t 8, .t 10], none),
         (.load 13 none (some 9999) (.t 12), none),
         (.mv 7 13, none)]))
      (.kill [1, 5, 7, 8, 9, 10] [] (.region [
         (.mv 14 5, none),
         (.mv 15 7, none),
         (.p 16 .id [.t 1], none),
         (.call 17 13 [.t 15, .t 16] [] [] [], none),
         (.bslice 18 23 32 1 [.int .u8 0, .int .u8 0, .int .u8 0, .int .u8 0, .int .u8 0, .int .u8 0, .int .u8 0, .int .u8 0, .int .u8 0, .int .u8 0, .int .u8 0, .int .u8 0, .int .u8 0, .int .u8 0, .int .u8 0, .int .u8 0, .int .u8 0, .int .u8 0, .int .u8 0, .int .u8 0, .int .u8 0, .int .u8 0, .int .u8 0, .int .u8 0, .int .u8 0, .int .u8 0, .int .u8 0, .int .u8 0, .int .u8 0, .int .u8 0, .int .u8 0, .int .u8 0] [(0, .t 17)], none),
         (.app 19 23 32 14 none (.t 18), none),
         (.mv 5 19, none)]))))
    (.kill [1, 5, 8, 9, 10] [] (.region [
       (.p 20 (.bin .add) [.t 10, .c (.pv (.int .i64 1))], none),
       (.p 10 .id [.t 20], none)])))))
def irMacVector : IR := (.seq (.region [
    (.p 4 .id [.c (.os 23 32 [])], none)])
 (.seq (.kill [0, 1] [] (.region [
     (.p 5 .id [.c (.os 23 32 [])], none)]))
  (.seq (.seq (.kill [0, 1, 5] [] (.region [
       (.mv 8 0, none),
       (.p 9 (.len none) [.t 8], none),
       (.p 10 .id [.c (.pv (.int .i64 0))], none)]))
    (.block 0 (.loop (.kill [1, 5, 8, 9, 10] [] irMacVector_L1))))
   (.seq (.kill [5] [] (.region [
       (.mv 21 5, none),
       (.mv 4 21, none)]))
    .ret))))
theorem okMacVector : okFn Try.prog Try.f11 irMacVector [.t 4] [] 2 = true := by kernel_rfl

-- consistoryref03.Tag
-- consistoryref03.Tag: args [25, 25]; lent []; rs [.cell 4 (some (32, true))]; loops: L1 keeps [1, 4, 5] [4]; L2 keeps [1, 4, 5, 6, 7, 8] [4]
def irRef03Tag_L1 : IR := (.seq (.seq (.kill [1, 4, 5] [4] (.region [
      (.p 20 .id [.t 5], none),
      (.p 21 (.len none) [.t 20], none),
      (.p 22 (.bin .lss) [.t 21, .c (.pv (.int .i64 64))], none)]))
   (.cond (.t 22)
    .skip
    (.exit 0)))
  (.block 1 (.kill [1, 4, 5] [4] (.region [
      (.mv 23 5, none),
      (.bslice 24 5 1 1 [.int .u8 0] [(0, .c (.pv (.int .u8 0)))], none),
      (.app 25 5 1 23 none (.t 24), none),
      (.mv 5 25, none)]))))
def irRef03Tag_L2 : IR := (.seq (.seq (.kill [1, 4, 5, 6, 7, 8] [4] (.region [
      (.p 26 .id [.t 8], none),
      (.p 27 (.bin .lss) [.t 26, .c (.pv (.int .i64 64))], none)]))
   (.cond (.t 27)
    .skip
    (.exit 2)))
  (.seq (.block 3 (.seq (.kill [1, 4, 5, 6, 7, 8] [4] (.region [
        (.mv 30 6, none),
        (.p 31 .id [.t 5], none),
        (.p 32 .id [.t 8], none),
        (.p 33 (.indexAddr none 1) [.t 31, .t 32], none),
        (.load 34 none (some 9999) (.t 33), none),
        (.p 35 (.bin .xor) [.t 34, .c (.pv (.int .u8 54))], none),
        (.bslice 36 5 1 1 [.int .u8 0] [(0, .t 35)], none),
        (.app 37 5 1 30 none (.t 36), none),
        (.mv 6 37, none)]))
     (.kill [1, 4, 5, 6, 7, 8] [4] (.region [
        (.mv 38 7, none),
        (.p 39 .id [.t 5], none),
        (.p 40 .id [.t 8], none),
        (.p 41 (.indexAddr none 1) [.t 39, .t 40], none),
        (.load 42 none (some 9999) (.t 41), none),
        (.p 43 (.bin .xor) [.t 42, .c (.pv (.int .u8 92))], none),
        (.bslice 44 5 1 1 [.int .u8 0] [(0, .t 43)], none),
        (.app 45 5 1 38 none (.t 44), none),
        (.mv 7 45, none)]))))
   (.kill [1, 4, 5, 6, 7, 8] [4] (.region [
      (.p 28 .id [.t 8], none),
      (.p 29 (.bin .add) [.t 28, .c (.pv (.int .i64 1))], none),
      (.p 8 .id [.t 29], none)]))))
def irRef03Tag : IR := (.seq (.region [
    (.alloc 4 (.pagg (List.replicate 32 (.int .u8 0))), none)])
 (.seq (.kill [0, 1, 4] [4] (.region [
     (.p 5 .id [.c (.os 5 1 [])], none)]))
  (.seq (.seq (.kill [0, 1, 4, 5] [4] (.region [
       (.p 9 .id [.t 0], none),
       (.p 10 (.len none) [.t 9], none),
       (.p 11 (.bin .gtr) [.t 10, .c (.pv (.int .i64 64))], none)]))
    (.cond (.t 11)
     (.kill [0, 1, 4, 5] [4] (.region [
        (.mv 12 5, none),
        (.mv 13 0, none),
        (.call 14 19 [.t 13] [] [] [], none),
        (.call 15 17 [.t 14] [] [] [], none),
        (.app 16 5 1 12 none (.t 15), none),
        (.mv 5 16, none)]))
     (.kill [0, 1, 4, 5] [4] (.region [
        (.mv 17 5, none),
        (.mv 18 0, none),
        (.app 19 5 1 17 none (.t 18), none),
        (.mv 5 19, none)]))))
   (.seq (.block 0 (.loop (.kill [1, 4, 5] [4] irRef03Tag_L1)))
    (.seq (.kill [1, 4, 5] [4] (.region [
        (.p 6 .id [.c (.os 5 1 [])], none)]))
     (.seq (.kill [1, 4, 5, 6] [4] (.region [
         (.p 7 .id [.c (.os 5 1 [])], none)]))
      (.seq (.seq (.kill [1, 4, 5, 6, 7] [4] (.region [
           (.p 8 .id [.c (.pv (.int .i64 0))], none)]))
        (.block 2 (.loop (.kill [1, 4, 5, 6, 7, 8] [4] irRef03Tag_L2))))
       (.seq (.kill [1, 4, 6, 7] [4] (.region [
           (.mv 46 6, none),
           (.mv 47 1, none),
           (.app 48 5 1 46 none (.t 47), none),
           (.mv 6 48, none)]))
        (.seq (.kill [4, 6, 7] [4] (.region [
            (.mv 49 7, none),
            (.mv 50 6, none),
            (.call 51 19 [.t 50] [] [] [], none),
            (.call 52 17 [.t 51] [] [] [], none),
            (.app 53 5 1 49 none (.t 52), none),
            (.mv 7 53, none)]))
         (.seq (.kill [4, 7] [4] (.region [
             (.mv 54 7, none),
             (.call 55 19 [.t 54] [] [] [], none),
             (.store (some (32, true)) (some 4) (.t 4) (.t 55), none)]))
          .ret))))))))))
theorem okRef03Tag : okFn Try.prog Try.f12 irRef03Tag [.cell 4 (some (32, true))] [] 2 = true := by kernel_rfl

-- mac.Tag
-- mac.Tag: args [25, 25]; lent []; rs [.cell 4 (some (32, true))]; loops: 
def irMacTag : IR := (.seq (.region [
    (.alloc 4 (.pagg (List.replicate 32 (.int .u8 0))), none)])
 (.seq (.kill [0, 1, 4] [4] (.region [
     (.mv 7 0, none),
     (.call 8 20 [.t 7] [] [] [], none),
     (.alloc 5 (.pagg (List.replicate 64 (.int .u8 0))), none),
     (.store (some (64, true)) (some 5) (.t 5) (.t 8), none)]))
  (.seq (.kill [1, 4, 5] [4, 5] (.region [
      (.load 9 (some (64, true)) (some 5) (.t 5), none),
      (.mv 10 1, none),
      (.call 11 21 [.t 9, .c (.pv (.int .u8 54)), .t 10] [] [] [], none),
      (.call 12 16 [.t 11] [] [] [], none),
      (.alloc 6 (.pagg (List.replicate 32 (.int .u8 0))), none),
      (.store (some (32, true)) (some 6) (.t 6) (.t 12), none)]))
   (.seq (.kill [4, 5, 6] [4, 5, 6] (.region [
       (.load 13 (some (64, true)) (some 5) (.t 5), none),
       (.p 14 (.slice (some 32) 1 false false) [.t 6], none),
       (.call 15 21 [.t 13, .c (.pv (.int .u8 92)), .t 14] [] [] [6], none),
       (.call 16 16 [.t 15] [] [] [], none),
       (.store (some (32, true)) (some 4) (.t 4) (.t 16), none)]))
    .ret))))
theorem okMacTag : okFn Try.prog Try.f13 irMacTag [.cell 4 (some (32, true))] [] 2 = true := by kernel_rfl

-- mac.Check
-- mac.Check: args [25, 25, 23]; lent []; rs [.t 6]; loops: L1 keeps [5, 7, 8, 13] [7]
def irMacCheck_L1 : IR := (.seq (.kill [5, 7, 8, 13] [7] (.region [
     (.p 14 (.bin .lss) [.t 13, .c (.pv (.int .i64 32))], none)]))
  (.seq (.cond (.t 14)
    .skip
    (.exit 0))
   (.seq (.block 1 (.seq (.kill [5, 7, 8, 13] [7] (.region [
         (.p 15 .id [.t 13], none),
         (.p 9 .id [.t 15], none)]))
      (.kill [5, 7, 8, 9, 13] [7] (.region [
         (.p 16 .id [.t 8], none),
         (.p 17 .id [.t 9], none),
         (.p 18 (.indexAddr (some 32) 1) [.t 7, .t 17], none),
         (.load 19 none (some 7) (.t 18), none),
         (.p 20 .id [.t 9], none),
         (.p 21 (.indexAddr (some 32) 1) [.t 5, .t 20], none),
         (.load 22 none (some 9999) (.t 21), none),
         (.p 23 (.bin .xor) [.t 19, .t 22], none),
         (.p 24 (.bin .or) [.t 16, .t 23], none),
         (.p 8 .id [.t 24], none)]))))
    (.kill [5, 7, 8, 13] [7] (.region [
       (.p 25 (.bin .add) [.t 13, .c (.pv (.int .i64 1))], none),
       (.p 13 .id [.t 25], none)])))))
def irMacCheck : IR := (.seq (.region [
    (.rbox 5 (.t 2), none),
    (.p 6 .id [.c (.pv (.bool false))], none)])
 (.seq (.kill [0, 1, 5] [] (.region [
     (.mv 10 0, none),
     (.mv 11 1, none),
     (.call 12 13 [.t 10, .t 11] [] [] [], none),
     (.alloc 7 (.pagg (List.replicate 32 (.int .u8 0))), none),
     (.store (some (32, true)) (some 7) (.t 7) (.t 12), none)]))
  (.seq (.kill [5, 7] [7] (.region [
      (.p 8 .id [.c (.pv (.int .u8 0))], none)]))
   (.seq (.seq (.kill [5, 7, 8] [7] (.region [
        (.p 13 .id [.c (.pv (.int .i64 0))], none)]))
     (.block 0 (.loop (.kill [5, 7, 8, 13] [7] irMacCheck_L1))))
    (.seq (.kill [8] [] (.region [
        (.p 26 .id [.t 8], none),
        (.p 27 (.bin .eql) [.t 26, .c (.pv (.int .u8 0))], none),
        (.p 6 .id [.t 27], none)]))
     .ret)))))
theorem okMacCheck : okFn Try.prog Try.f14 irMacCheck [.t 6] [] 3 = true := by kernel_rfl

-- mac.filled
-- mac.filled: args [25]; lent []; rs [.cell 2 (some (64, true))]; loops: 
def irMacFilled : IR := (.seq (.region [
    (.alloc 2 (.pagg (List.replicate 64 (.int .u8 0))), none)])
 (.seq (.kill [0, 2] [2, 4] (.region [
     (.alloc 3 (.pagg (List.replicate 64 (.int .u8 0))), none)]))
  (.seq (.seq (.kill [0, 2, 3] [2, 3, 4] (.region [
       (.p 5 .id [.t 0], none),
       (.p 6 (.len none) [.t 5], none),
       (.p 7 (.bin .gtr) [.t 6, .c (.pv (.int .i64 64))], none)]))
    (.cond (.t 7)
     (.seq (.kill [0, 2, 3] [2, 3, 4] (.region [
         (.mv 8 0, none),
         (.call 9 16 [.t 8] [] [] [4], none),
         (.alloc 4 (.pagg (List.replicate 32 (.int .u8 0))), none),
         (.store (some (32, true)) (some 4) (.t 4) (.t 9), none)]))
      (.kill [2, 3, 4] [2, 3, 4] (.region [
         (.p 10 (.slice (some 32) 1 false false) [.t 4], none),
         (.mv 0 10, none)])))
     .skip))
   (.seq (.kill [0, 2, 3] [2, 3, 4] (.region [
       (.p 11 (.slice (some 64) 1 false false) [.t 3], none),
       (.mv 12 0, none),
       (.copy 13 3 (some 4) (.t 11) (.t 12), none)]))
    (.seq (.kill [2, 3] [2, 3] (.region [
        (.load 14 (some (64, true)) (some 3) (.t 3), none),
        (.store (some (64, true)) (some 2) (.t 2) (.t 14), none)]))
     .ret)))))
theorem okMacFilled : okFn Try.prog Try.f20 irMacFilled [.cell 2 (some (64, true))] [] 1 = true := by kernel_rfl

-- mac.block.with
-- mac.block.with: args [41, 5, 25]; lent []; rs [.t 6]; loops: L1 keeps [1, 2, 3, 8] [3]
def irMacBlockWith_L1 : IR := (.seq (.kill [1, 2, 3, 8] [3] (.region [
     (.p 9 (.bin .lss) [.t 8, .c (.pv (.int .i64 64))], none)]))
  (.seq (.cond (.t 9)
    .skip
    (.exit 0))
   (.seq (.block 1 (.seq (.kill [1, 2, 3, 8] [3] (.region [
         (.p 10 .id [.t 8], none),
         (.p 7 .id [.t 10], none)]))
      (.kill [1, 2, 3, 7, 8] [3] (.region [
         (.p 11 .id [.t 7], none),
         (.p 12 (.indexAddr (some 64) 1) [.t 3, .t 11], none),
         (.load 13 none (some 3) (.t 12), none),
         (.p 14 .id [.t 1], none),
         (.p 15 (.bin .xor) [.t 13, .t 14], none),
         (.p 16 (.indexAddr (some 64) 1) [.t 3, .t 11], none),
         (.store none (some 3) (.t 16) (.t 15), none)]))))
    (.kill [1, 2, 3, 8] [3] (.region [
       (.p 17 (.bin .add) [.t 8, .c (.pv (.int .i64 1))], none),
       (.p 8 .id [.t 17], none)])))))
def irMacBlockWith : IR := (.seq (.region [
    (.box 3 (.t 0), none),
    (.p 6 .id [.c (.os 5 1 [])], none)])
 (.seq (.seq (.kill [1, 2, 3] [3] (.region [
      (.p 8 .id [.c (.pv (.int .i64 0))], none)]))
   (.block 0 (.loop (.kill [1, 2, 3, 8] [3] irMacBlockWith_L1))))
  (.seq (.kill [2, 3] [3] (.region [
      (.bslice 18 5 1 0 [.int .u8 0] [], none),
      (.p 19 (.slice (some 64) 1 false false) [.t 3], none),
      (.app 20 5 1 18 (some 3) (.t 19), none),
      (.mv 21 2, none),
      (.app 22 5 1 20 none (.t 21), none),
      (.mv 6 22, none)]))
   .ret)))
theorem okMacBlockWith : okFn Try.prog Try.f21 irMacBlockWith [.t 6] [] 3 = true := by kernel_rfl

end Go.Proofs.Ytljjmcnblcklhaa
