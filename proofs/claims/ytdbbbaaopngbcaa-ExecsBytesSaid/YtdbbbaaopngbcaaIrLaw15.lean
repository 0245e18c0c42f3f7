/- The abstract code of functions, printed by gen_ir.py out of the program's form in Lean; each is checked against it. -/
import Derived.Test.YtdbbbaaopngbcaaProg
import Derived.Test.YtdbbbaaopngbcaaAbs2
set_option linter.unusedVariables false
set_option linter.unusedSimpArgs false
set_option maxRecDepth 100000
namespace Go.Proofs.Ytdbbbaaopngbcaa
open Go.Abs
-- consistorylaw15.wakes
-- consistorylaw15.wakes: args []; lent []; rs [.t 0]; loops: 
def irLaw15Wakes : IR := (.seq (.region [
    (.p 0 .id [.c (.pv (.bool false))], none)])
 (.seq (.kill [] [] (.region [
     (.build 4 (.pagg [.int .i64 0, .int .u16 0]) [(1, 1, .c (.pv (.int .u16 15)))], none),
     (.call 5 14 [.t 4] [] [] [], none),
     (.alloc 1 (.pagg [.int .i64 0, .int .i64 0, .int .i64 0, .int .u16 0, .int .i64 0, .int .u16 0, .bool false, .int .i64 0, .bool false, .int .i64 0, .bool false, .int .i64 0, .bool false, .int .i64 0, .bool false, .int .i64 0, .bool false, .int .i64 0, .bool false, .int .i64 0, .bool false, .int .i64 0, .bool false, .int .i64 0, .bool false, .int .i64 0, .bool false, .int .i64 0, .bool false, .int .i64 0, .bool false, .int .i64 0, .bool false, .int .i64 0, .bool false, .int .i64 0, .bool false, .int .i64 0, .int .i64 0, .int .i64 0, .int .i64 0, .bool false, .int .i64 0, .int .i64 0, .int .i64 0, .int .i64 0, .bool false, .int .i64 0, .int .i64 0, .int .i64 0, .int .i64 0, .bool false, .int .i64 0, .int .i64 0, .int .i64 0, .int .i64 0, .bool false, .int .i64 0, .int .i64 0, .int .i64 0, .int .i64 0, .bool false, .int .i64 0, .int .i64 0, .int .i64 0, .int .i64 0, .bool false, .int .i64 0]), none),
     (.store (some (68, true)) (some 1) (.t 1) (.t 5), none)]))
  (.seq (.kill [1] [1] (.region [
      (.load 7 (some (68, true)) (some 1) (.t 1), none),
      (.build 8 (.pagg (List.replicate 4 (.int .i64 0))) [(0, 1, .c (.pv (.int .i64 2))), (1, 1, .c (.pv (.int .i64 2))), (2, 1, .c (.pv (.int .i64 9)))], none),
      (.build 9 (.pagg [.int .i64 0, .int .i64 0, .int .i64 0, .int .i64 0, .int .i64 0, .int .i64 0, .sl 1 []]) [(0, 1, .c (.pv (.int .i64 1))), (1, 1, .c (.pv (.int .i64 1))), (2, 4, .t 8)], none),
      (.bslice 10 53 7 1 [.int .i64 0, .int .i64 0, .int .i64 0, .int .i64 0, .int .i64 0, .int .i64 0, .sl 1 []] [(0, .t 9)], none),
      (.call 11 11 [.t 7, .t 10] [] [] [], none),
      (.p 6 .id [.t 11], none),
      (.p 12 (.ext 0) [.t 6], none),
      (.p 13 (.ext 1) [.t 6], none),
      (.alloc 2 (.pagg [.int .i64 0, .int .i64 0, .int .i64 0, .int .u16 0, .int .i64 0, .int .u16 0, .bool false, .int .i64 0, .bool false, .int .i64 0, .bool false, .int .i64 0, .bool false, .int .i64 0, .bool false, .int .i64 0, .bool false, .int .i64 0, .bool false, .int .i64 0, .bool false, .int .i64 0, .bool false, .int .i64 0, .bool false, .int .i64 0, .bool false, .int .i64 0, .bool false, .int .i64 0, .bool false, .int .i64 0, .bool false, .int .i64 0, .bool false, .int .i64 0, .bool false, .int .i64 0, .int .i64 0, .int .i64 0, .int .i64 0, .bool false, .int .i64 0, .int .i64 0, .int .i64 0, .int .i64 0, .bool false, .int .i64 0, .int .i64 0, .int .i64 0, .int .i64 0, .bool false, .int .i64 0, .int .i64 0, .int .i64 0, .int .i64 0, .bool false, .int .i64 0, .int .i64 0, .int .i64 0, .int .i64 0, .bool false, .int .i64 0, .int .i64 0, .int .i64 0, .int .i64 0, .bool false, .int .i64 0]), none),
      (.store (some (68, true)) (some 2) (.t 2) (.t 12), none),
      (.mv 3 13, none)]))
   (.seq (.kill [2, 3] [2] (.region [
       (.p 14 (.fieldAddr 0) [.t 2], none),
       (.load 15 none (some 2) (.t 14), none),
       (.p 16 (.bin .eql) [.t 15, .c (.pv (.int .i64 1))], none),
       (.p 17 .id [.t 16], none),
       (.p 18 .id [.t 3], some (17, true)),
       (.p 19 (.len none) [.t 18], some (17, true)),
       (.p 20 (.bin .eql) [.t 19, .c (.pv (.int .i64 1))], some (17, true)),
       (.p 21 .pick [.t 17, .t 20, .c (.pv (.bool false))], none),
       (.p 22 .id [.t 21], none),
       (.p 23 .id [.t 3], some (22, true)),
       (.p 24 (.indexAddr none 5) [.t 23, .c (.pv (.int .i64 0))], some (22, true)),
       (.load 25 (some (5, true)) (some 9999) (.t 24), some (22, true)),
       (.build 26 (.pagg [.bool false, .int .i64 0]) [(0, 1, .c (.pv (.bool true)))], some (22, true)),
       (.build 27 (.pagg [.int .i64 0, .int .i64 0, .int .i64 0, .bool false, .int .i64 0]) [(0, 1, .c (.pv (.int .i64 1))), (1, 1, .c (.pv (.int .i64 1))), (2, 1, .c (.pv (.int .i64 1))), (3, 2, .t 26)], some (22, true)),
       (.p 28 (.seq false [.i .i64, .i .i64, .i .i64, .b, .i .i64]) [.t 25, .t 27], some (22, true)),
       (.p 29 .pick [.t 22, .t 28, .c (.pv (.bool false))], none),
       (.p 30 .id [.t 29], none),
       (.p 31 (.fieldAddr 6) [.t 2], some (30, true)),
       (.p 32 (.indexAddr (some 16) 2) [.t 31, .c (.pv (.int .i64 2))], some (30, true)),
       (.p 33 (.fieldAddr 1) [.t 32], some (30, true)),
       (.load 34 none (some 2) (.t 33), some (30, true)),
       (.p 35 (.bin .eql) [.t 34, .c (.pv (.int .i64 9))], some (30, true)),
       (.p 36 .pick [.t 30, .t 35, .c (.pv (.bool false))], none),
       (.p 0 .id [.t 36], none)]))
    .ret))))
theorem okLaw15Wakes : okFn Try.prog Try.f8 irLaw15Wakes [.t 0] [] 0 = true := by kernel_rfl

-- consistorylaw15.long
-- consistorylaw15.long: args [35]; lent []; rs [.t 2]; loops: L1 keeps [0, 8, 9] []
def irLaw15Long_L1 : IR := (.seq (.kill [0, 8, 9] [] (.region [
     (.p 10 (.bin .lss) [.t 9, .t 8], none)]))
  (.seq (.cond (.t 10)
    .skip
    (.exit 0))
   (.seq (.block 1 (.seq (.kill [0, 8, 9] [] (.region [
         (.p 11 .id [.t 9], none),
         (.p 3 .id [.t 11], none)]))
      (.seq (.kill [0, 3, 8, 9] [] (.region [
          (.p 12 .id [.t 0], none),
          (.p 13 .id [.t 3], none),
          (.p 14 (.indexAddr none 1) [.t 12, .t 13], none),
          (.load 15 none (some 9999) (.t 14), none),
          (.p 16 (.len none) [.t 15], none),
          (.p 17 (.bin .gtr) [.t 16, .c (.pv (.int .i64 10))], none)]))
       (.cond (.t 17)
        (.seq (.kill [] [] (.region [
            (.p 2 .id [.c (.pv (.bool true))], none)]))
         .ret)
        .skip))))
    (.kill [0, 8, 9] [] (.region [
       (.p 18 (.bin .add) [.t 9, .c (.pv (.int .i64 1))], none),
       (.p 9 .id [.t 18], none)])))))
def irLaw15Long : IR := (.seq (.region [
    (.p 2 .id [.c (.pv (.bool false))], none)])
 (.seq (.seq (.kill [0] [] (.region [
      (.p 4 .id [.t 0], none),
      (.p 5 (.len none) [.t 4], none),
      (.p 6 (.bin .gtr) [.t 5, .c (.pv (.int .i64 30))], none)]))
   (.cond (.t 6)
    (.seq (.kill [] [] (.region [
        (.p 2 .id [.c (.pv (.bool true))], none)]))
     .ret)
    .skip))
  (.seq (.seq (.kill [0] [] (.region [
       (.p 7 .id [.t 0], none),
       (.p 8 (.len none) [.t 7], none),
       (.p 9 .id [.c (.pv (.int .i64 0))], none)]))
    (.block 0 (.loop (.kill [0, 8, 9] [] irLaw15Long_L1))))
   (.seq (.kill [] [] (.region [
       (.p 2 .id [.c (.pv (.bool false))], none)]))
    .ret))))
theorem okLaw15Long : okFn Try.prog Try.f9 irLaw15Long [.t 2] [] 1 = true := by kernel_rfl

-- consistorylaw15.fine
-- consistorylaw15.fine: args [34]; lent []; rs [.t 2]; loops: 
def irLaw15Fine : IR := (.seq (.region [
    (.box 1 (.t 0), none),
    (.p 2 .id [.c (.pv (.bool false))], none)])
 (.seq (.kill [1] [1] (.region [
     (.p 3 (.fieldAddr 0) [.t 1], none),
     (.load 4 none (some 1) (.t 3), none),
     (.p 5 (.bin .geq) [.t 4, .c (.pv (.int .i64 (-1000000)))], none),
     (.p 6 .id [.t 5], none),
     (.p 7 (.fieldAddr 0) [.t 1], some (6, true)),
     (.load 8 none (some 1) (.t 7), some (6, true)),
     (.p 9 (.bin .leq) [.t 8, .c (.pv (.int .i64 1000000))], some (6, true)),
     (.p 10 .pick [.t 6, .t 9, .c (.pv (.bool false))], none),
     (.p 2 .id [.t 10], none)]))
  .ret))
theorem okLaw15Fine : okFn Try.prog Try.f10 irLaw15Fine [.t 2] [] 1 = true := by kernel_rfl

-- consistorylaw15.ExecsDo
-- consistorylaw15.ExecsDo: args [34, 35]; lent []; rs [.t 4]; loops: L1 keeps [1, 2, 20] [2]; L2 keeps [1, 2, 6, 36, 37] [2, 6]
def irLaw15ExecsDo_L1 : IR := (.seq (.kill [1, 2, 20] [2] (.region [
     (.p 21 (.bin .lss) [.t 20, .c (.pv (.int .i64 16))], none)]))
  (.seq (.cond (.t 21)
    .skip
    (.exit 0))
   (.seq (.block 1 (.seq (.kill [1, 2, 20] [2] (.region [
         (.p 22 .id [.t 20], none),
         (.p 5 .id [.t 22], none)]))
      (.seq (.kill [1, 2, 5, 20] [2] (.region [
          (.p 23 .id [.t 5], none),
          (.p 24 (.fieldAddr 6) [.t 2], none),
          (.p 25 (.indexAddr (some 16) 2) [.t 24, .t 23], none),
          (.p 26 (.fieldAddr 0) [.t 25], none),
          (.load 27 none (some 2) (.t 26), none),
          (.p 28 (.un .not) [.t 27], none)]))
       (.cond (.t 28)
        (.kill [1, 2, 5, 20] [2] (.region [
           (.p 29 .id [.t 5], none),
           (.build 30 (.pagg [.bool false, .int .i64 0]) [], none),
           (.p 31 (.fieldAddr 6) [.t 2], none),
           (.p 32 (.indexAddr (some 16) 2) [.t 31, .t 29], none),
           (.store (some (2, false)) (some 2) (.t 32) (.t 30), none)]))
        .skip))))
    (.kill [1, 2, 20] [2] (.region [
       (.p 33 (.bin .add) [.t 20, .c (.pv (.int .i64 1))], none),
       (.p 20 .id [.t 33], none)])))))
def irLaw15ExecsDo_L2 : IR := (.seq (.kill [1, 2, 6, 36, 37] [2, 6] (.region [
     (.p 38 (.bin .lss) [.t 37, .t 36], none)]))
  (.seq (.cond (.t 38)
    .skip
    (.exit 2))
   (.seq (.block 3 (.seq (.kill [1, 2, 6, 36, 37] [2, 6] (.region [
         (.p 39 .id [.t 37], none),
         (.p 7 .id [.t 39], none)]))
      (.seq (.kill [1, 2, 6, 7, 36, 37] [2, 6] (.region [
          (.load 41 (some (68, true)) (some 2) (.t 2), none),
          (.bslice 42 53 7 0 [.int .i64 0, .int .i64 0, .int .i64 0, .int .i64 0, .int .i64 0, .int .i64 0, .sl 1 []] [], none),
          (.p 43 .id [.t 1], none),
          (.p 44 .id [.t 7], none),
          (.p 45 (.indexAddr none 1) [.t 43, .t 44], none),
          (.load 46 none (some 9999) (.t 45), none),
          (.app 47 53 7 42 none (.t 46), none),
          (.call 48 11 [.t 41, .t 47] [] [] [], none),
          (.p 40 .id [.t 48], none),
          (.p 49 (.ext 0) [.t 40], none),
          (.p 50 (.ext 1) [.t 40], none),
          (.alloc 8 (.pagg [.int .i64 0, .int .i64 0, .int .i64 0, .int .u16 0, .int .i64 0, .int .u16 0, .bool false, .int .i64 0, .bool false, .int .i64 0, .bool false, .int .i64 0, .bool false, .int .i64 0, .bool false, .int .i64 0, .bool false, .int .i64 0, .bool false, .int .i64 0, .bool false, .int .i64 0, .bool false, .int .i64 0, .bool false, .int .i64 0, .bool false, .int .i64 0, .bool false, .int .i64 0, .bool false, .int .i64 0, .bool false, .int .i64 0, .bool false, .int .i64 0, .bool false, .int .i64 0, .int .i64 0, .int .i64 0, .int .i64 0, .bool false, .int .i64 0, .int .i64 0, .int .i64 0, .int .i64 0, .bool false, .int .i64 0, .int .i64 0, .int .i64 0, .int .i64 0, .bool false, .int .i64 0, .int .i64 0, .int .i64 0, .int .i64 0, .bool false, .int .i64 0, .int .i64 0, .int .i64 0, .int .i64 0, .bool false, .int .i64 0, .int .i64 0, .int .i64 0, .int .i64 0, .bool false, .int .i64 0]), none),
          (.store (some (68, true)) (some 8) (.t 8) (.t 49), none),
          (.mv 9 50, none)]))
       (.seq (.kill [1, 2, 6, 7, 8, 9, 36, 37] [2, 6, 8] (.region [
           (.load 51 (some (68, true)) (some 6) (.t 6), none),
           (.p 52 .id [.t 1], none),
           (.p 53 .id [.t 7], none),
           (.p 54 (.indexAddr none 1) [.t 52, .t 53], none),
           (.load 55 none (some 9999) (.t 54), none),
           (.call 56 12 [.t 51, .t 55] [] [] [], none),
           (.alloc 10 (.agg [.pv (.int .i64 0), .pv (.int .i64 0), .pv (.int .i64 0), .pv (.int .u16 0), .pv (.int .i64 0), .pv (.int .u16 0), .pv (.bool false), .pv (.int .i64 0), .pv (.bool false), .pv (.int .i64 0), .pv (.bool false), .pv (.int .i64 0), .pv (.bool false), .pv (.int .i64 0), .pv (.bool false), .pv (.int .i64 0), .pv (.bool false), .pv (.int .i64 0), .pv (.bool false), .pv (.int .i64 0), .pv (.bool false), .pv (.int .i64 0), .pv (.bool false), .pv (.int .i64 0), .pv (.bool false), .pv (.int .i64 0), .pv (.bool false), .pv (.int .i64 0), .pv (.bool false), .pv (.int .i64 0), .pv (.bool false), .pv (.int .i64 0), .pv (.bool false), .pv (.int .i64 0), .pv (.bool false), .pv (.int .i64 0), .pv (.bool false), .pv (.int .i64 0), .pv (.int .i64 0), .pv (.int .i64 0), .pv (.int .i64 0), .pv (.bool false), .pv (.int .i64 0), .pv (.int .i64 0), .pv (.int .i64 0), .pv (.int .i64 0), .pv (.bool false), .pv (.int .i64 0), .pv (.int .i64 0), .pv (.int .i64 0), .pv (.int .i64 0), .pv (.bool false), .pv (.int .i64 0), .pv (.int .i64 0), .pv (.int .i64 0), .pv (.int .i64 0), .pv (.bool false), .pv (.int .i64 0), .pv (.int .i64 0), .pv (.int .i64 0), .pv (.int .i64 0), .pv (.bool false), .pv (.int .i64 0), .pv (.int .i64 0), .pv (.int .i64 0), .pv (.int .i64 0), .pv (.bool false), .pv (.int .i64 0), .os 31 5 []]), none),
           (.store (some (69, true)) (some 10) (.t 10) (.t 56), none)]))
        (.seq (.seq (.kill [1, 2, 6, 8, 9, 10, 36, 37] [2, 6, 8, 10] (.region [
             (.load 57 (some (68, true)) (some 8) (.t 8), none),
             (.p 58 (.fieldAddr 0) [.t 10], none),
             (.load 59 (some (68, false)) (some 10) (.t 58), none),
             (.p 60 (.seq true [.i .i64, .i .i64, .i .i64, .i .u16, .i .i64, .i .u16, .b, .i .i64, .b, .i .i64, .b, .i .i64, .b, .i .i64, .b, .i .i64, .b, .i .i64, .b, .i .i64, .b, .i .i64, .b, .i .i64, .b, .i .i64, .b, .i .i64, .b, .i .i64, .b, .i .i64, .b, .i .i64, .b, .i .i64, .b, .i .i64, .i .i64, .i .i64, .i .i64, .b, .i .i64, .i .i64, .i .i64, .i .i64, .b, .i .i64, .i .i64, .i .i64, .i .i64, .b, .i .i64, .i .i64, .i .i64, .i .i64, .b, .i .i64, .i .i64, .i .i64, .i .i64, .b, .i .i64, .i .i64, .i .i64, .i .i64, .b, .i .i64]) [.t 57, .t 59], none),
             (.p 61 .id [.t 60], none),
             (.mv 62 9, some (61, false)),
             (.p 63 (.fieldAddr 68) [.t 10], some (61, false)),
             (.load 64 none (some 10) (.t 63), some (61, false)),
             (.call 65 13 [.t 62, .t 64] [] [] [], some (61, false)),
             (.p 66 (.un .not) [.t 65], some (61, false)),
             (.p 67 .pick [.t 61, .c (.pv (.bool true)), .t 66], none)]))
          (.cond (.t 67)
           (.seq (.kill [] [] (.region [
               (.p 4 .id [.c (.pv (.bool false))], none)]))
            .ret)
           .skip))
         (.kill [1, 2, 6, 8, 10, 36, 37] [2, 6, 8, 10] (.region [
            (.load 68 (some (68, true)) (some 8) (.t 8), none),
            (.p 69 (.fieldAddr 0) [.t 10], none),
            (.load 70 (some (68, false)) (some 10) (.t 69), none),
            (.store (some (68, true)) (some 2) (.t 2) (.t 68), none),
            (.store (some (68, true)) (some 6) (.t 6) (.t 70), none)])))))))
    (.kill [1, 2, 6, 36, 37] [2, 6] (.region [
       (.p 71 (.bin .add) [.t 37, .c (.pv (.int .i64 1))], none),
       (.p 37 .id [.t 71], none)])))))
def irLaw15ExecsDo : IR := (.seq (.region [
    (.box 2 (.t 0), none),
    (.p 4 .id [.c (.pv (.bool false))], none)])
 (.seq (.seq (.kill [1, 2] [2] (.region [
      (.call 11 8 [] [] [] [], none),
      (.p 12 (.un .not) [.t 11], none)]))
   (.cond (.t 12)
    (.seq (.kill [] [] (.region [
        (.p 4 .id [.c (.pv (.bool false))], none)]))
     .ret)
    .skip))
  (.seq (.seq (.kill [1, 2] [2] (.region [
       (.p 13 .id [.t 1], none),
       (.call 14 9 [.t 13] [] [] [], none),
       (.p 15 .id [.t 14], none),
       (.load 16 (some (68, true)) (some 2) (.t 2), some (15, false)),
       (.call 17 10 [.t 16] [] [] [], some (15, false)),
       (.p 18 (.un .not) [.t 17], some (15, false)),
       (.p 19 .pick [.t 15, .c (.pv (.bool true)), .t 18], none)]))
    (.cond (.t 19)
     (.seq (.kill [] [] (.region [
         (.p 4 .id [.c (.pv (.bool true))], none)]))
      .ret)
     .skip))
   (.seq (.seq (.kill [1, 2] [2] (.region [
        (.p 20 .id [.c (.pv (.int .i64 0))], none)]))
     (.block 0 (.loop (.kill [1, 2, 20] [2] irLaw15ExecsDo_L1))))
    (.seq (.kill [1, 2] [2] (.region [
        (.load 34 (some (68, true)) (some 2) (.t 2), none),
        (.alloc 6 (.pagg [.int .i64 0, .int .i64 0, .int .i64 0, .int .u16 0, .int .i64 0, .int .u16 0, .bool false, .int .i64 0, .bool false, .int .i64 0, .bool false, .int .i64 0, .bool false, .int .i64 0, .bool false, .int .i64 0, .bool false, .int .i64 0, .bool false, .int .i64 0, .bool false, .int .i64 0, .bool false, .int .i64 0, .bool false, .int .i64 0, .bool false, .int .i64 0, .bool false, .int .i64 0, .bool false, .int .i64 0, .bool false, .int .i64 0, .bool false, .int .i64 0, .bool false, .int .i64 0, .int .i64 0, .int .i64 0, .int .i64 0, .bool false, .int .i64 0, .int .i64 0, .int .i64 0, .int .i64 0, .bool false, .int .i64 0, .int .i64 0, .int .i64 0, .int .i64 0, .bool false, .int .i64 0, .int .i64 0, .int .i64 0, .int .i64 0, .bool false, .int .i64 0, .int .i64 0, .int .i64 0, .int .i64 0, .bool false, .int .i64 0, .int .i64 0, .int .i64 0, .int .i64 0, .bool false, .int .i64 0]), none),
        (.store (some (68, true)) (some 6) (.t 6) (.t 34), none)]))
     (.seq (.seq (.kill [1, 2, 6] [2, 6] (.region [
          (.p 35 .id [.t 1], none),
          (.p 36 (.len none) [.t 35], none),
          (.p 37 .id [.c (.pv (.int .i64 0))], none)]))
       (.block 2 (.loop (.kill [1, 2, 6, 36, 37] [2, 6] irLaw15ExecsDo_L2))))
      (.seq (.kill [] [] (.region [
          (.p 4 .id [.c (.pv (.bool true))], none)]))
       .ret)))))))
theorem okLaw15ExecsDo : okFn Try.prog Try.f3 irLaw15ExecsDo [.t 4] [] 2 = true := by kernel_rfl

-- consistorylaw15.ExecsOnce
-- consistorylaw15.ExecsOnce: args [42, 35]; lent []; rs [.t 4]; loops: L1 keeps [0, 1, 5, 28, 29] [5]; L2 keeps [0, 5, 7, 8, 49, 50] [5, 7]
def irLaw15ExecsOnce_L1 : IR := (.seq (.kill [0, 1, 5, 28, 29] [5] (.region [
     (.p 30 (.bin .lss) [.t 29, .t 28], none)]))
  (.seq (.cond (.t 30)
    .skip
    (.exit 0))
   (.seq (.block 1 (.seq (.kill [0, 1, 5, 28, 29] [5] (.region [
         (.p 31 .id [.t 29], none),
         (.p 6 .id [.t 31], none)]))
      (.kill [0, 1, 5, 6, 28, 29] [5] (.region [
         (.load 33 (some (68, true)) (some 5) (.t 5), none),
         (.p 34 .id [.t 1], none),
         (.p 35 .id [.t 6], none),
         (.p 36 (.indexAddr none 1) [.t 34, .t 35], none),
         (.load 37 none (some 9999) (.t 36), none),
         (.call 38 11 [.t 33, .t 37] [] [] [], none),
         (.p 32 .id [.t 38], none),
         (.p 39 (.ext 0) [.t 32], none),
         (.p 40 (.ext 1) [.t 32], none),
         (.store (some (68, true)) (some 5) (.t 5) (.t 39), none)]))))
    (.kill [0, 1, 5, 28, 29] [5] (.region [
       (.p 41 (.bin .add) [.t 29, .c (.pv (.int .i64 1))], none),
       (.p 29 .id [.t 41], none)])))))
def irLaw15ExecsOnce_L2 : IR := (.seq (.kill [0, 5, 7, 8, 49, 50] [5, 7] (.region [
     (.p 51 (.bin .lss) [.t 50, .t 49], none)]))
  (.seq (.cond (.t 51)
    .skip
    (.exit 2))
   (.seq (.block 3 (.seq (.kill [0, 5, 7, 8, 49, 50] [5, 7] (.region [
         (.p 52 .id [.t 50], none),
         (.p 9 .id [.t 52], none)]))
      (.seq (.kill [0, 5, 7, 8, 9, 49, 50] [5, 7] (.region [
          (.p 53 .id [.t 0], none),
          (.p 54 .id [.t 9], none),
          (.p 55 (.indexAddr none 7) [.t 53, .t 54], none),
          (.p 56 (.fieldAddr 0) [.t 55], none),
          (.load 57 none (some 9999) (.t 56), none),
          (.p 58 (.bin .lss) [.t 57, .c (.pv (.int .i64 0))], none),
          (.p 59 .id [.t 58], none),
          (.p 60 .id [.t 0], some (59, false)),
          (.p 61 .id [.t 9], some (59, false)),
          (.p 62 (.indexAddr none 7) [.t 60, .t 61], some (59, false)),
          (.p 63 (.fieldAddr 0) [.t 62], some (59, false)),
          (.load 64 none (some 9999) (.t 63), some (59, false)),
          (.p 65 (.bin .gtr) [.t 64, .c (.pv (.int .i64 5))], some (59, false)),
          (.p 66 .pick [.t 59, .c (.pv (.bool true)), .t 65], none)]))
       (.cond (.t 66)
        (.seq (.kill [] [] (.region [
            (.p 4 .id [.c (.pv (.bool true))], none)]))
         .ret)
        .skip))))
    (.kill [0, 5, 7, 8, 49, 50] [5, 7] (.region [
       (.p 67 (.bin .add) [.t 50, .c (.pv (.int .i64 1))], none),
       (.p 50 .id [.t 67], none)])))))
def irLaw15ExecsOnce : IR := (.seq (.region [
    (.p 4 .id [.c (.pv (.bool false))], none)])
 (.seq (.seq (.kill [0, 1] [] (.region [
      (.call 10 8 [] [] [] [], none),
      (.p 11 (.un .not) [.t 10], none)]))
   (.cond (.t 11)
    (.seq (.kill [] [] (.region [
        (.p 4 .id [.c (.pv (.bool false))], none)]))
     .ret)
    .skip))
  (.seq (.seq (.kill [0, 1] [] (.region [
       (.p 12 .id [.t 1], none),
       (.call 13 9 [.t 12] [] [] [], none),
       (.p 14 .id [.t 13], none),
       (.p 15 .id [.t 0], some (14, false)),
       (.p 16 (.len none) [.t 15], some (14, false)),
       (.p 17 (.bin .gtr) [.t 16, .c (.pv (.int .i64 10))], some (14, false)),
       (.p 18 .pick [.t 14, .c (.pv (.bool true)), .t 17], none)]))
    (.cond (.t 18)
     (.seq (.kill [] [] (.region [
         (.p 4 .id [.c (.pv (.bool true))], none)]))
      .ret)
     .skip))
   (.seq (.kill [0, 1] [] (.region [
       (.build 19 (.pagg [.int .i64 0, .int .u16 0]) [(1, 1, .c (.pv (.int .u16 15)))], none),
       (.call 20 14 [.t 19] [] [] [], none),
       (.alloc 5 (.pagg [.int .i64 0, .int .i64 0, .int .i64 0, .int .u16 0, .int .i64 0, .int .u16 0, .bool false, .int .i64 0, .bool false, .int .i64 0, .bool false, .int .i64 0, .bool false, .int .i64 0, .bool false, .int .i64 0, .bool false, .int .i64 0, .bool false, .int .i64 0, .bool false, .int .i64 0, .bool false, .int .i64 0, .bool false, .int .i64 0, .bool false, .int .i64 0, .bool false, .int .i64 0, .bool false, .int .i64 0, .bool false, .int .i64 0, .bool false, .int .i64 0, .bool false, .int .i64 0, .int .i64 0, .int .i64 0, .int .i64 0, .bool false, .int .i64 0, .int .i64 0, .int .i64 0, .int .i64 0, .bool false, .int .i64 0, .int .i64 0, .int .i64 0, .int .i64 0, .bool false, .int .i64 0, .int .i64 0, .int .i64 0, .int .i64 0, .bool false, .int .i64 0, .int .i64 0, .int .i64 0, .int .i64 0, .bool false, .int .i64 0, .int .i64 0, .int .i64 0, .int .i64 0, .bool false, .int .i64 0]), none),
       (.store (some (68, true)) (some 5) (.t 5) (.t 20), none)]))
    (.seq (.kill [0, 1, 5] [5] (.region [
        (.load 22 (some (68, true)) (some 5) (.t 5), none),
        (.p 23 .id [.t 0], none),
        (.call 24 11 [.t 22, .t 23] [] [] [], none),
        (.p 21 .id [.t 24], none),
        (.p 25 (.ext 0) [.t 21], none),
        (.p 26 (.ext 1) [.t 21], none),
        (.store (some (68, true)) (some 5) (.t 5) (.t 25), none)]))
     (.seq (.seq (.kill [0, 1, 5] [5] (.region [
          (.p 27 .id [.t 1], none),
          (.p 28 (.len none) [.t 27], none),
          (.p 29 .id [.c (.pv (.int .i64 0))], none)]))
       (.block 0 (.loop (.kill [0, 1, 5, 28, 29] [5] irLaw15ExecsOnce_L1))))
      (.seq (.kill [0, 5] [5] (.region [
          (.load 43 (some (68, true)) (some 5) (.t 5), none),
          (.p 44 .id [.t 0], none),
          (.call 45 11 [.t 43, .t 44] [] [] [], none),
          (.p 42 .id [.t 45], none),
          (.p 46 (.ext 0) [.t 42], none),
          (.p 47 (.ext 1) [.t 42], none),
          (.alloc 7 (.pagg [.int .i64 0, .int .i64 0, .int .i64 0, .int .u16 0, .int .i64 0, .int .u16 0, .bool false, .int .i64 0, .bool false, .int .i64 0, .bool false, .int .i64 0, .bool false, .int .i64 0, .bool false, .int .i64 0, .bool false, .int .i64 0, .bool false, .int .i64 0, .bool false, .int .i64 0, .bool false, .int .i64 0, .bool false, .int .i64 0, .bool false, .int .i64 0, .bool false, .int .i64 0, .bool false, .int .i64 0, .bool false, .int .i64 0, .bool false, .int .i64 0, .bool false, .int .i64 0, .int .i64 0, .int .i64 0, .int .i64 0, .bool false, .int .i64 0, .int .i64 0, .int .i64 0, .int .i64 0, .bool false, .int .i64 0, .int .i64 0, .int .i64 0, .int .i64 0, .bool false, .int .i64 0, .int .i64 0, .int .i64 0, .int .i64 0, .bool false, .int .i64 0, .int .i64 0, .int .i64 0, .int .i64 0, .bool false, .int .i64 0, .int .i64 0, .int .i64 0, .int .i64 0, .bool false, .int .i64 0]), none),
          (.store (some (68, true)) (some 7) (.t 7) (.t 46), none),
          (.mv 8 47, none)]))
       (.seq (.seq (.kill [0, 5, 7, 8] [5, 7] (.region [
            (.p 48 .id [.t 0], none),
            (.p 49 (.len none) [.t 48], none),
            (.p 50 .id [.c (.pv (.int .i64 0))], none)]))
         (.block 2 (.loop (.kill [0, 5, 7, 8, 49, 50] [5, 7] irLaw15ExecsOnce_L2))))
        (.seq (.kill [5, 7, 8] [5, 7] (.region [
            (.mv 68 8, none),
            (.p 69 (.len none) [.t 68], none),
            (.p 70 (.bin .eql) [.t 69, .c (.pv (.int .i64 0))], none),
            (.p 71 .id [.t 70], none),
            (.p 72 (.fieldAddr 6) [.t 7], some (71, true)),
            (.load 73 (some (32, false)) (some 7) (.t 72), some (71, true)),
            (.p 74 (.fieldAddr 6) [.t 5], some (71, true)),
            (.load 75 (some (32, false)) (some 5) (.t 74), some (71, true)),
            (.p 76 (.seq false [.b, .i .i64, .b, .i .i64, .b, .i .i64, .b, .i .i64, .b, .i .i64, .b, .i .i64, .b, .i .i64, .b, .i .i64, .b, .i .i64, .b, .i .i64, .b, .i .i64, .b, .i .i64, .b, .i .i64, .b, .i .i64, .b, .i .i64, .b, .i .i64]) [.t 73, .t 75], some (71, true)),
            (.p 77 .pick [.t 71, .t 76, .c (.pv (.bool false))], none),
            (.p 78 .id [.t 77], none),
            (.p 79 (.fieldAddr 38) [.t 7], some (78, true)),
            (.load 80 (some (30, false)) (some 7) (.t 79), some (78, true)),
            (.p 81 (.fieldAddr 38) [.t 5], some (78, true)),
            (.load 82 (some (30, false)) (some 5) (.t 81), some (78, true)),
            (.p 83 (.seq false [.i .i64, .i .i64, .i .i64, .b, .i .i64, .i .i64, .i .i64, .i .i64, .b, .i .i64, .i .i64, .i .i64, .i .i64, .b, .i .i64, .i .i64, .i .i64, .i .i64, .b, .i .i64, .i .i64, .i .i64, .i .i64, .b, .i .i64, .i .i64, .i .i64, .i .i64, .b, .i .i64]) [.t 80, .t 82], some (78, true)),
            (.p 84 .pick [.t 78, .t 83, .c (.pv (.bool false))], none),
            (.p 85 .id [.t 84], none),
            (.p 86 (.fieldAddr 2) [.t 7], some (85, true)),
            (.load 87 (some (2, false)) (some 7) (.t 86), some (85, true)),
            (.p 88 (.fieldAddr 2) [.t 5], some (85, true)),
            (.load 89 (some (2, false)) (some 5) (.t 88), some (85, true)),
            (.p 90 (.seq false [.i .i64, .i .u16]) [.t 87, .t 89], some (85, true)),
            (.p 91 .pick [.t 85, .t 90, .c (.pv (.bool false))], none),
            (.p 92 .id [.t 91], none),
            (.p 93 (.fieldAddr 1) [.t 7], some (92, true)),
            (.load 94 none (some 7) (.t 93), some (92, true)),
            (.p 95 (.fieldAddr 1) [.t 5], some (92, true)),
            (.load 96 none (some 5) (.t 95), some (92, true)),
            (.p 97 (.bin .eql) [.t 94, .t 96], some (92, true)),
            (.p 98 .pick [.t 92, .t 97, .c (.pv (.bool false))], none),
            (.p 99 .id [.t 98], none),
            (.p 100 (.fieldAddr 0) [.t 7], some (99, true)),
            (.load 101 none (some 7) (.t 100), some (99, true)),
            (.p 102 (.bin .sub) [.t 101, .c (.pv (.int .i64 1))], some (99, true)),
            (.p 103 (.fieldAddr 0) [.t 5], some (99, true)),
            (.load 104 none (some 5) (.t 103), some (99, true)),
            (.p 105 (.bin .eql) [.t 102, .t 104], some (99, true)),
            (.p 106 .pick [.t 99, .t 105, .c (.pv (.bool false))], none),
            (.p 107 .id [.t 106], none),
            (.p 108 (.fieldAddr 4) [.t 7], some (107, true)),
            (.load 109 (some (2, false)) (some 7) (.t 108), some (107, true)),
            (.p 110 (.fieldAddr 2) [.t 5], some (107, true)),
            (.load 111 (some (2, false)) (some 5) (.t 110), some (107, true)),
            (.p 112 (.seq false [.i .i64, .i .u16]) [.t 109, .t 111], some (107, true)),
            (.p 113 .pick [.t 107, .t 112, .c (.pv (.bool false))], none),
            (.p 4 .id [.t 113], none)]))
         .ret)))))))))
theorem okLaw15ExecsOnce : okFn Try.prog Try.f4 irLaw15ExecsOnce [.t 4] [] 2 = true := by kernel_rfl

-- consistorylaw15.ExecsViews
-- consistorylaw15.ExecsViews: args [35]; lent []; rs [.t 2]; loops: L1 keeps [0, 3, 14, 15] [3]
def irLaw15ExecsViews_L1 : IR := (.seq (.kill [0, 3, 14, 15] [3] (.region [
     (.p 16 (.bin .lss) [.t 15, .t 14], none)]))
  (.seq (.cond (.t 16)
    .skip
    (.exit 0))
   (.seq (.block 1 (.seq (.kill [0, 3, 14, 15] [3] (.region [
         (.p 17 .id [.t 15], none),
         (.p 4 .id [.t 17], none)]))
      (.seq (.kill [0, 3, 4, 14, 15] [3] (.region [
          (.load 19 (some (68, true)) (some 3) (.t 3), none),
          (.p 20 .id [.t 0], none),
          (.p 21 .id [.t 4], none),
          (.p 22 (.indexAddr none 1) [.t 20, .t 21], none),
          (.load 23 none (some 9999) (.t 22), none),
          (.call 24 11 [.t 19, .t 23] [] [] [], none),
          (.p 18 .id [.t 24], none),
          (.p 25 (.ext 0) [.t 18], none),
          (.p 26 (.ext 1) [.t 18], none),
          (.alloc 5 (.pagg [.int .i64 0, .int .i64 0, .int .i64 0, .int .u16 0, .int .i64 0, .int .u16 0, .bool false, .int .i64 0, .bool false, .int .i64 0, .bool false, .int .i64 0, .bool false, .int .i64 0, .bool false, .int .i64 0, .bool false, .int .i64 0, .bool false, .int .i64 0, .bool false, .int .i64 0, .bool false, .int .i64 0, .bool false, .int .i64 0, .bool false, .int .i64 0, .bool false, .int .i64 0, .bool false, .int .i64 0, .bool false, .int .i64 0, .bool false, .int .i64 0, .bool false, .int .i64 0, .int .i64 0, .int .i64 0, .int .i64 0, .bool false, .int .i64 0, .int .i64 0, .int .i64 0, .int .i64 0, .bool false, .int .i64 0, .int .i64 0, .int .i64 0, .int .i64 0, .bool false, .int .i64 0, .int .i64 0, .int .i64 0, .int .i64 0, .bool false, .int .i64 0, .int .i64 0, .int .i64 0, .int .i64 0, .bool false, .int .i64 0, .int .i64 0, .int .i64 0, .int .i64 0, .bool false, .int .i64 0]), none),
          (.store (some (68, true)) (some 5) (.t 5) (.t 25), none),
          (.mv 6 26, none)]))
       (.seq (.seq (.kill [0, 3, 5, 14, 15] [3, 5] (.region [
            (.p 27 (.fieldAddr 4) [.t 5], none),
            (.load 28 (some (2, false)) (some 5) (.t 27), none),
            (.p 29 (.fieldAddr 2) [.t 3], none),
            (.load 30 (some (2, false)) (some 3) (.t 29), none),
            (.p 31 (.seq true [.i .i64, .i .u16]) [.t 28, .t 30], none),
            (.p 32 .id [.t 31], none),
            (.p 33 (.fieldAddr 0) [.t 5], some (32, false)),
            (.load 34 none (some 5) (.t 33), some (32, false)),
            (.p 35 (.bin .sub) [.t 34, .c (.pv (.int .i64 1))], some (32, false)),
            (.p 36 (.fieldAddr 0) [.t 3], some (32, false)),
            (.load 37 none (some 3) (.t 36), some (32, false)),
            (.p 38 (.bin .neq) [.t 35, .t 37], some (32, false)),
            (.p 39 .pick [.t 32, .c (.pv (.bool true)), .t 38], none)]))
         (.cond (.t 39)
          (.seq (.kill [] [] (.region [
              (.p 2 .id [.c (.pv (.bool false))], none)]))
           .ret)
          .skip))
        (.seq (.seq (.kill [0, 3, 5, 14, 15] [3, 5] (.region [
             (.p 40 (.fieldAddr 2) [.t 5], none),
             (.load 41 (some (2, false)) (some 5) (.t 40), none),
             (.p 42 (.fieldAddr 2) [.t 3], none),
             (.load 43 (some (2, false)) (some 3) (.t 42), none),
             (.p 44 (.seq false [.i .i64, .i .u16]) [.t 41, .t 43], none),
             (.p 45 .id [.t 44], none),
             (.p 46 (.fieldAddr 1) [.t 5], some (45, true)),
             (.load 47 none (some 5) (.t 46), some (45, true)),
             (.p 48 (.fieldAddr 1) [.t 3], some (45, true)),
             (.load 49 none (some 3) (.t 48), some (45, true)),
             (.p 50 (.bin .neq) [.t 47, .t 49], some (45, true)),
             (.p 51 .pick [.t 45, .t 50, .c (.pv (.bool false))], none),
             (.p 52 .id [.t 51], none),
             (.p 53 (.fieldAddr 2) [.t 5], some (52, false)),
             (.load 54 (some (2, false)) (some 5) (.t 53), some (52, false)),
             (.p 55 (.fieldAddr 2) [.t 3], some (52, false)),
             (.load 56 (some (2, false)) (some 3) (.t 55), some (52, false)),
             (.p 57 (.seq true [.i .i64, .i .u16]) [.t 54, .t 56], some (52, false)),
             (.p 58 .id [.t 57], some (52, false)),
             (.p 59 (.fieldAddr 2) [.t 5], some (58, true)),
             (.p 60 (.fieldAddr 0) [.t 59], some (58, true)),
             (.load 61 none (some 5) (.t 60), some (58, true)),
             (.p 62 (.bin .sub) [.t 61, .c (.pv (.int .i64 1))], some (58, true)),
             (.p 63 (.fieldAddr 2) [.t 3], some (58, true)),
             (.p 64 (.fieldAddr 0) [.t 63], some (58, true)),
             (.load 65 none (some 3) (.t 64), some (58, true)),
             (.p 66 (.bin .neq) [.t 62, .t 65], some (58, true)),
             (.p 67 .id [.t 66], some (58, true)),
             (.p 68 (.fieldAddr 1) [.t 5], some (67, false)),
             (.load 69 none (some 5) (.t 68), some (67, false)),
             (.p 70 (.bin .sub) [.t 69, .c (.pv (.int .i64 1))], some (67, false)),
             (.p 71 (.fieldAddr 0) [.t 5], some (67, false)),
             (.load 72 none (some 5) (.t 71), some (67, false)),
             (.p 73 (.bin .neq) [.t 70, .t 72], some (67, false)),
             (.p 74 .pick [.t 67, .c (.pv (.bool true)), .t 73], some (58, true)),
             (.p 75 .pick [.t 58, .t 74, .c (.pv (.bool false))], some (52, false)),
             (.p 76 .pick [.t 52, .c (.pv (.bool true)), .t 75], none)]))
          (.cond (.t 76)
           (.seq (.kill [] [] (.region [
               (.p 2 .id [.c (.pv (.bool false))], none)]))
            .ret)
           .skip))
         (.kill [0, 3, 5, 14, 15] [3, 5] (.region [
            (.load 77 (some (68, true)) (some 5) (.t 5), none),
            (.store (some (68, true)) (some 3) (.t 3) (.t 77), none)])))))))
    (.kill [0, 3, 14, 15] [3] (.region [
       (.p 78 (.bin .add) [.t 15, .c (.pv (.int .i64 1))], none),
       (.p 15 .id [.t 78], none)])))))
def irLaw15ExecsViews : IR := (.seq (.region [
    (.p 2 .id [.c (.pv (.bool false))], none)])
 (.seq (.seq (.kill [0] [] (.region [
      (.call 7 8 [] [] [] [], none),
      (.p 8 (.un .not) [.t 7], none)]))
   (.cond (.t 8)
    (.seq (.kill [] [] (.region [
        (.p 2 .id [.c (.pv (.bool false))], none)]))
     .ret)
    .skip))
  (.seq (.seq (.kill [0] [] (.region [
       (.p 9 .id [.t 0], none),
       (.call 10 9 [.t 9] [] [] [], none)]))
    (.cond (.t 10)
     (.seq (.kill [] [] (.region [
         (.p 2 .id [.c (.pv (.bool true))], none)]))
      .ret)
     .skip))
   (.seq (.kill [0] [] (.region [
       (.build 11 (.pagg [.int .i64 0, .int .u16 0]) [(1, 1, .c (.pv (.int .u16 31)))], none),
       (.call 12 14 [.t 11] [] [] [], none),
       (.alloc 3 (.pagg [.int .i64 0, .int .i64 0, .int .i64 0, .int .u16 0, .int .i64 0, .int .u16 0, .bool false, .int .i64 0, .bool false, .int .i64 0, .bool false, .int .i64 0, .bool false, .int .i64 0, .bool false, .int .i64 0, .bool false, .int .i64 0, .bool false, .int .i64 0, .bool false, .int .i64 0, .bool false, .int .i64 0, .bool false, .int .i64 0, .bool false, .int .i64 0, .bool false, .int .i64 0, .bool false, .int .i64 0, .bool false, .int .i64 0, .bool false, .int .i64 0, .bool false, .int .i64 0, .int .i64 0, .int .i64 0, .int .i64 0, .bool false, .int .i64 0, .int .i64 0, .int .i64 0, .int .i64 0, .bool false, .int .i64 0, .int .i64 0, .int .i64 0, .int .i64 0, .bool false, .int .i64 0, .int .i64 0, .int .i64 0, .int .i64 0, .bool false, .int .i64 0, .int .i64 0, .int .i64 0, .int .i64 0, .bool false, .int .i64 0, .int .i64 0, .int .i64 0, .int .i64 0, .bool false, .int .i64 0]), none),
       (.store (some (68, true)) (some 3) (.t 3) (.t 12), none)]))
    (.seq (.seq (.kill [0, 3] [3] (.region [
         (.p 13 .id [.t 0], none),
         (.p 14 (.len none) [.t 13], none),
         (.p 15 .id [.c (.pv (.int .i64 0))], none)]))
      (.block 0 (.loop (.kill [0, 3, 14, 15] [3] irLaw15ExecsViews_L1))))
     (.seq (.kill [] [] (.region [
         (.p 2 .id [.c (.pv (.bool true))], none)]))
      .ret))))))
theorem okLaw15ExecsViews : okFn Try.prog Try.f5 irLaw15ExecsViews [.t 2] [] 1 = true := by kernel_rfl

-- consistorylaw15.ExecsReplies
-- consistorylaw15.ExecsReplies: args [35, 42]; lent []; rs [.t 4]; loops: L1 keeps [0, 1, 5, 27, 28] [5]; L3 keeps [1, 5, 7, 8, 9, 10, 11, 47, 48, 49] [5, 7, 11]; L4 keeps [1, 5, 7, 8, 9, 11, 12, 47, 48, 49, 107, 108, 109] [5, 7, 11]; L2 keeps [1, 5, 7, 8, 9, 47, 48, 49] [5, 7]
def irLaw15ExecsReplies_L1 : IR := (.seq (.kill [0, 1, 5, 27, 28] [5] (.region [
     (.p 29 (.bin .lss) [.t 28, .t 27], none)]))
  (.seq (.cond (.t 29)
    .skip
    (.exit 0))
   (.seq (.block 1 (.seq (.kill [0, 1, 5, 27, 28] [5] (.region [
         (.p 30 .id [.t 28], none),
         (.p 6 .id [.t 30], none)]))
      (.kill [0, 1, 5, 6, 27, 28] [5] (.region [
         (.load 32 (some (68, true)) (some 5) (.t 5), none),
         (.p 33 .id [.t 0], none),
         (.p 34 .id [.t 6], none),
         (.p 35 (.indexAddr none 1) [.t 33, .t 34], none),
         (.load 36 none (some 9999) (.t 35), none),
         (.call 37 11 [.t 32, .t 36] [] [] [], none),
         (.p 31 .id [.t 37], none),
         (.p 38 (.ext 0) [.t 31], none),
         (.p 39 (.ext 1) [.t 31], none),
         (.store (some (68, true)) (some 5) (.t 5) (.t 38), none)]))))
    (.kill [0, 1, 5, 27, 28] [5] (.region [
       (.p 40 (.bin .add) [.t 28, .c (.pv (.int .i64 1))], none),
       (.p 28 .id [.t 40], none)])))))
def irLaw15ExecsReplies_L3 : IR := (.seq (.seq (.kill [1, 5, 7, 8, 9, 10, 11, 47, 48, 49] [5, 7, 11] (.region [
      (.p 54 .id [.t 9], none),
      (.p 55 .id [.t 1], none),
      (.p 56 (.len none) [.t 55], none),
      (.p 57 (.bin .lss) [.t 54, .t 56], none),
      (.p 58 .id [.t 57], none),
      (.p 59 .id [.t 1], some (58, true)),
      (.p 60 .id [.t 9], some (58, true)),
      (.p 61 (.indexAddr none 7) [.t 59, .t 60], some (58, true)),
      (.p 62 (.fieldAddr 0) [.t 61], some (58, true)),
      (.load 63 none (some 9999) (.t 62), some (58, true)),
      (.p 64 (.fieldAddr 0) [.t 11], some (58, true)),
      (.load 65 none (some 11) (.t 64), some (58, true)),
      (.p 66 (.bin .neq) [.t 63, .t 65], some (58, true)),
      (.p 67 .id [.t 66], some (58, true)),
      (.p 68 .id [.t 1], some (67, false)),
      (.p 69 .id [.t 9], some (67, false)),
      (.p 70 (.indexAddr none 7) [.t 68, .t 69], some (67, false)),
      (.p 71 (.fieldAddr 1) [.t 70], some (67, false)),
      (.load 72 none (some 9999) (.t 71), some (67, false)),
      (.p 73 (.fieldAddr 1) [.t 11], some (67, false)),
      (.load 74 none (some 11) (.t 73), some (67, false)),
      (.p 75 (.bin .neq) [.t 72, .t 74], some (67, false)),
      (.p 76 .pick [.t 67, .c (.pv (.bool true)), .t 75], some (58, true)),
      (.p 77 .pick [.t 58, .t 76, .c (.pv (.bool false))], none)]))
   (.cond (.t 77)
    .skip
    (.exit 4)))
  (.block 5 (.kill [1, 5, 7, 8, 9, 10, 11, 47, 48, 49] [5, 7, 11] (.region [
      (.p 78 .id [.t 9], none),
      (.p 79 (.bin .add) [.t 78, .c (.pv (.int .i64 1))], none),
      (.p 9 .id [.t 79], none)]))))
def irLaw15ExecsReplies_L4 : IR := (.seq (.kill [1, 5, 7, 8, 9, 11, 12, 47, 48, 49, 107, 108, 109] [5, 7, 11] (.region [
     (.p 110 (.bin .lss) [.t 109, .t 108], none)]))
  (.seq (.cond (.t 110)
    .skip
    (.exit 6))
   (.seq (.block 7 (.seq (.kill [1, 5, 7, 8, 9, 11, 12, 47, 48, 49, 107, 108, 109] [5, 7, 11] (.region [
         (.p 111 (.indexAddr none 5) [.t 107, .t 109], none),
         (.load 112 (some (5, true)) (some 9999) (.t 111), none),
         (.alloc 14 (.pagg [.int .i64 0, .int .i64 0, .int .i64 0, .bool false, .int .i64 0]), none),
         (.store (some (5, true)) (some 14) (.t 14) (.t 112), none)]))
      (.kill [1, 5, 7, 8, 9, 11, 12, 14, 47, 48, 49, 107, 108, 109] [5, 7, 11, 14] (.region [
         (.p 113 .id [.t 12], none),
         (.p 114 .id [.t 113], none),
         (.p 115 (.fieldAddr 0) [.t 14], some (114, true)),
         (.load 116 none (some 14) (.t 115), some (114, true)),
         (.p 117 (.fieldAddr 0) [.t 11], some (114, true)),
         (.load 118 none (some 11) (.t 117), some (114, true)),
         (.p 119 (.bin .neq) [.t 116, .t 118], some (114, true)),
         (.p 120 .pick [.t 114, .t 119, .c (.pv (.bool false))], none),
         (.p 12 .id [.t 120], none)]))))
    (.kill [1, 5, 7, 8, 9, 11, 12, 47, 48, 49, 107, 108, 109] [5, 7, 11] (.region [
       (.p 121 (.bin .add) [.t 109, .c (.pv (.int .i64 1))], none),
       (.p 109 .id [.t 121], none)])))))
def irLaw15ExecsReplies_L2 : IR := (.seq (.kill [1, 5, 7, 8, 9, 47, 48, 49] [5, 7] (.region [
     (.p 50 (.bin .lss) [.t 49, .t 48], none)]))
  (.seq (.cond (.t 50)
    .skip
    (.exit 2))
   (.seq (.block 3 (.seq (.kill [1, 5, 7, 8, 9, 47, 48, 49] [5, 7] (.region [
         (.p 51 .id [.t 49], none),
         (.p 52 (.indexAddr none 5) [.t 47, .t 49], none),
         (.load 53 (some (5, true)) (some 9999) (.t 52), none),
         (.alloc 11 (.pagg [.int .i64 0, .int .i64 0, .int .i64 0, .bool false, .int .i64 0]), none),
         (.p 10 .id [.t 51], none),
         (.store (some (5, true)) (some 11) (.t 11) (.t 53), none)]))
      (.seq (.block 4 (.loop (.kill [1, 5, 7, 8, 9, 10, 11, 47, 48, 49] [5, 7, 11] irLaw15ExecsReplies_L3)))
       (.seq (.seq (.kill [1, 5, 7, 8, 9, 10, 11, 47, 48, 49] [5, 7, 11] (.region [
            (.p 80 .id [.t 9], none),
            (.p 81 .id [.t 1], none),
            (.p 82 (.len none) [.t 81], none),
            (.p 83 (.bin .eql) [.t 80, .t 82], none),
            (.p 84 .id [.t 83], none),
            (.p 85 (.fieldAddr 2) [.t 11], some (84, false)),
            (.load 86 none (some 11) (.t 85), some (84, false)),
            (.p 87 (.fieldAddr 0) [.t 7], some (84, false)),
            (.load 88 none (some 7) (.t 87), some (84, false)),
            (.p 89 (.bin .neq) [.t 86, .t 88], some (84, false)),
            (.p 90 .pick [.t 84, .c (.pv (.bool true)), .t 89], none),
            (.p 91 .id [.t 90], none),
            (.p 92 (.fieldAddr 1) [.t 11], some (91, false)),
            (.load 93 none (some 11) (.t 92), some (91, false)),
            (.p 94 (.fieldAddr 0) [.t 11], some (91, false)),
            (.load 95 none (some 11) (.t 94), some (91, false)),
            (.p 96 (.fieldAddr 38) [.t 5], some (91, false)),
            (.p 97 (.indexAddr (some 6) 5) [.t 96, .t 95], some (91, false)),
            (.p 98 (.fieldAddr 1) [.t 97], some (91, false)),
            (.load 99 none (some 5) (.t 98), some (91, false)),
            (.p 100 (.bin .leq) [.t 93, .t 99], some (91, false)),
            (.p 101 .pick [.t 91, .c (.pv (.bool true)), .t 100], none)]))
         (.cond (.t 101)
          (.seq (.kill [] [] (.region [
              (.p 4 .id [.c (.pv (.bool false))], none)]))
           .ret)
          .skip))
        (.seq (.kill [1, 5, 7, 8, 9, 10, 11, 47, 48, 49] [5, 7, 11] (.region [
            (.p 102 .id [.t 9], none),
            (.p 103 (.bin .add) [.t 102, .c (.pv (.int .i64 1))], none),
            (.p 9 .id [.t 103], none)]))
         (.seq (.kill [1, 5, 7, 8, 9, 10, 11, 47, 48, 49] [5, 7, 11] (.region [
             (.p 12 .id [.c (.pv (.bool true))], none)]))
          (.seq (.seq (.kill [1, 5, 7, 8, 9, 10, 11, 12, 47, 48, 49] [5, 7, 11] (.region [
               (.p 104 .id [.t 8], none),
               (.p 105 .id [.t 10], none),
               (.p 106 (.bin .add) [.t 105, .c (.pv (.int .i64 1))], none),
               (.p 107 (.slice none 5 true false) [.t 104, .t 106], none),
               (.p 108 (.len none) [.t 107], none),
               (.p 109 .id [.c (.pv (.int .i64 0))], none)]))
            (.block 6 (.loop (.kill [1, 5, 7, 8, 9, 11, 12, 47, 48, 49, 107, 108, 109] [5, 7, 11] irLaw15ExecsReplies_L4))))
           (.seq (.kill [1, 5, 7, 8, 9, 11, 12, 47, 48, 49] [5, 7, 11] (.region [
               (.p 122 .id [.t 12], none),
               (.p 123 .id [.t 122], none),
               (.p 124 (.fieldAddr 0) [.t 11], some (123, true)),
               (.load 125 none (some 11) (.t 124), some (123, true)),
               (.p 126 (.fieldAddr 38) [.t 7], some (123, true)),
               (.p 127 (.indexAddr (some 6) 5) [.t 126, .t 125], some (123, true)),
               (.load 128 (some (5, false)) (some 7) (.t 127), some (123, true)),
               (.load 129 (some (5, true)) (some 11) (.t 11), some (123, true)),
               (.p 130 (.seq true [.i .i64, .i .i64, .i .i64, .b, .i .i64]) [.t 128, .t 129], some (123, true)),
               (.p 131 .pick [.t 123, .t 130, .c (.pv (.bool false))], none)]))
            (.cond (.t 131)
             (.seq (.kill [] [] (.region [
                 (.p 4 .id [.c (.pv (.bool false))], none)]))
              .ret)
             .skip)))))))))
    (.kill [1, 5, 7, 8, 9, 47, 48, 49] [5, 7] (.region [
       (.p 132 (.bin .add) [.t 49, .c (.pv (.int .i64 1))], none),
       (.p 49 .id [.t 132], none)])))))
def irLaw15ExecsReplies : IR := (.seq (.region [
    (.p 4 .id [.c (.pv (.bool false))], none)])
 (.seq (.seq (.kill [0, 1] [] (.region [
      (.call 15 8 [] [] [] [], none),
      (.p 16 (.un .not) [.t 15], none)]))
   (.cond (.t 16)
    (.seq (.kill [] [] (.region [
        (.p 4 .id [.c (.pv (.bool false))], none)]))
     .ret)
    .skip))
  (.seq (.seq (.kill [0, 1] [] (.region [
       (.p 17 .id [.t 0], none),
       (.call 18 9 [.t 17] [] [] [], none),
       (.p 19 .id [.t 18], none),
       (.p 20 .id [.t 1], some (19, false)),
       (.p 21 (.len none) [.t 20], some (19, false)),
       (.p 22 (.bin .gtr) [.t 21, .c (.pv (.int .i64 10))], some (19, false)),
       (.p 23 .pick [.t 19, .c (.pv (.bool true)), .t 22], none)]))
    (.cond (.t 23)
     (.seq (.kill [] [] (.region [
         (.p 4 .id [.c (.pv (.bool true))], none)]))
      .ret)
     .skip))
   (.seq (.kill [0, 1] [] (.region [
       (.build 24 (.pagg [.int .i64 0, .int .u16 0]) [(1, 1, .c (.pv (.int .u16 15)))], none),
       (.call 25 14 [.t 24] [] [] [], none),
       (.alloc 5 (.pagg [.int .i64 0, .int .i64 0, .int .i64 0, .int .u16 0, .int .i64 0, .int .u16 0, .bool false, .int .i64 0, .bool false, .int .i64 0, .bool false, .int .i64 0, .bool false, .int .i64 0, .bool false, .int .i64 0, .bool false, .int .i64 0, .bool false, .int .i64 0, .bool false, .int .i64 0, .bool false, .int .i64 0, .bool false, .int .i64 0, .bool false, .int .i64 0, .bool false, .int .i64 0, .bool false, .int .i64 0, .bool false, .int .i64 0, .bool false, .int .i64 0, .bool false, .int .i64 0, .int .i64 0, .int .i64 0, .int .i64 0, .bool false, .int .i64 0, .int .i64 0, .int .i64 0, .int .i64 0, .bool false, .int .i64 0, .int .i64 0, .int .i64 0, .int .i64 0, .bool false, .int .i64 0, .int .i64 0, .int .i64 0, .int .i64 0, .bool false, .int .i64 0, .int .i64 0, .int .i64 0, .int .i64 0, .bool false, .int .i64 0, .int .i64 0, .int .i64 0, .int .i64 0, .bool false, .int .i64 0]), none),
       (.store (some (68, true)) (some 5) (.t 5) (.t 25), none)]))
    (.seq (.seq (.kill [0, 1, 5] [5] (.region [
         (.p 26 .id [.t 0], none),
         (.p 27 (.len none) [.t 26], none),
         (.p 28 .id [.c (.pv (.int .i64 0))], none)]))
      (.block 0 (.loop (.kill [0, 1, 5, 27, 28] [5] irLaw15ExecsReplies_L1))))
     (.seq (.kill [1, 5] [5] (.region [
         (.load 42 (some (68, true)) (some 5) (.t 5), none),
         (.p 43 .id [.t 1], none),
         (.call 44 11 [.t 42, .t 43] [] [] [], none),
         (.p 41 .id [.t 44], none),
         (.p 45 (.ext 0) [.t 41], none),
         (.p 46 (.ext 1) [.t 41], none),
         (.alloc 7 (.pagg [.int .i64 0, .int .i64 0, .int .i64 0, .int .u16 0, .int .i64 0, .int .u16 0, .bool false, .int .i64 0, .bool false, .int .i64 0, .bool false, .int .i64 0, .bool false, .int .i64 0, .bool false, .int .i64 0, .bool false, .int .i64 0, .bool false, .int .i64 0, .bool false, .int .i64 0, .bool false, .int .i64 0, .bool false, .int .i64 0, .bool false, .int .i64 0, .bool false, .int .i64 0, .bool false, .int .i64 0, .bool false, .int .i64 0, .bool false, .int .i64 0, .bool false, .int .i64 0, .int .i64 0, .int .i64 0, .int .i64 0, .bool false, .int .i64 0, .int .i64 0, .int .i64 0, .int .i64 0, .bool false, .int .i64 0, .int .i64 0, .int .i64 0, .int .i64 0, .bool false, .int .i64 0, .int .i64 0, .int .i64 0, .int .i64 0, .bool false, .int .i64 0, .int .i64 0, .int .i64 0, .int .i64 0, .bool false, .int .i64 0, .int .i64 0, .int .i64 0, .int .i64 0, .bool false, .int .i64 0]), none),
         (.store (some (68, true)) (some 7) (.t 7) (.t 45), none),
         (.mv 8 46, none)]))
      (.seq (.kill [1, 5, 7, 8] [5, 7] (.region [
          (.p 9 .id [.c (.pv (.int .i64 0))], none)]))
       (.seq (.seq (.kill [1, 5, 7, 8, 9] [5, 7] (.region [
            (.p 47 .id [.t 8], none),
            (.p 48 (.len none) [.t 47], none),
            (.p 49 .id [.c (.pv (.int .i64 0))], none)]))
         (.block 2 (.loop (.kill [1, 5, 7, 8, 9, 47, 48, 49] [5, 7] irLaw15ExecsReplies_L2))))
        (.seq (.kill [1, 8] [] (.region [
            (.mv 133 8, none),
            (.p 134 (.len none) [.t 133], none),
            (.mv 135 1, none),
            (.p 136 (.len none) [.t 135], none),
            (.p 137 (.bin .leq) [.t 134, .t 136], none),
            (.p 4 .id [.t 137], none)]))
         .ret)))))))))
theorem okLaw15ExecsReplies : okFn Try.prog Try.f6 irLaw15ExecsReplies [.t 4] [] 2 = true := by kernel_rfl

end Go.Proofs.Ytdbbbaaopngbcaa
