/- The abstract code of functions, printed by gen_ir.py out of the program's form in Lean; each is checked against it. -/
import Derived.Test.YtcceiicpploclaaProg
import Derived.Test.YtcceiicpploclaaIrNums
set_option linter.unusedVariables false
set_option linter.unusedSimpArgs false
set_option maxRecDepth 100000
namespace Go.Proofs.Ytcceiicpploclaa
open Go.Abs
-- reqs.Right
-- reqs.Right: args [3, 33]; lent []; rs [.t 4]; loops: 
def irReqsRight : IR := (.seq (.region [
    (.box 3 (.t 1), none),
    (.p 4 .id [.c (.pv (.bool false))], none)])
 (.seq (.seq (.kill [0, 3] [3] (.region [
      (.p 5 .id [.t 0], none),
      (.p 6 (.bin .eql) [.t 5, .c (.pv (.int .i64 0))], none)]))
   (.cond (.t 6)
    (.seq (.kill [3] [3] (.region [
        (.p 7 (.fieldAddr 0) [.t 3], none),
        (.load 8 none (some 3) (.t 7), none),
        (.p 9 (.bin .eql) [.t 8, .c (.pv (.int .i64 6))], none),
        (.p 10 .id [.t 9], none),
        (.p 11 (.fieldAddr 1) [.t 3], some (10, true)),
        (.load 12 none (some 3) (.t 11), some (10, true)),
        (.p 13 (.bin .eql) [.t 12, .c (.pv (.int .i64 0))], some (10, true)),
        (.p 14 .pick [.t 10, .t 13, .c (.pv (.bool false))], none),
        (.p 15 .id [.t 14], none),
        (.p 16 (.fieldAddr 3) [.t 3], some (15, true)),
        (.load 17 none (some 3) (.t 16), some (15, true)),
        (.p 18 (.bin .eql) [.t 17, .c (.pv (.int .i64 0))], some (15, true)),
        (.p 19 .pick [.t 15, .t 18, .c (.pv (.bool false))], none),
        (.p 20 .id [.t 19], none),
        (.p 21 (.fieldAddr 2) [.t 3], some (20, true)),
        (.load 22 none (some 3) (.t 21), some (20, true)),
        (.p 23 (.bin .geq) [.t 22, .c (.pv (.int .i64 0))], some (20, true)),
        (.p 24 .pick [.t 20, .t 23, .c (.pv (.bool false))], none),
        (.p 25 .id [.t 24], none),
        (.p 26 (.fieldAddr 2) [.t 3], some (25, true)),
        (.load 27 none (some 3) (.t 26), some (25, true)),
        (.p 28 (.bin .leq) [.t 27, .c (.pv (.int .i64 65535))], some (25, true)),
        (.p 29 .pick [.t 25, .t 28, .c (.pv (.bool false))], none),
        (.p 4 .id [.t 29], none)]))
     .ret)
    .skip))
  (.seq (.seq (.kill [3] [3] (.region [
       (.p 30 (.fieldAddr 1) [.t 3], none),
       (.load 31 none (some 3) (.t 30), none),
       (.p 32 (.bin .lss) [.t 31, .c (.pv (.int .i64 0))], none),
       (.p 33 .id [.t 32], none),
       (.p 34 (.fieldAddr 1) [.t 3], some (33, false)),
       (.load 35 none (some 3) (.t 34), some (33, false)),
       (.p 36 (.bin .geq) [.t 35, .c (.pv (.int .i64 16))], some (33, false)),
       (.p 37 .pick [.t 33, .c (.pv (.bool true)), .t 36], none)]))
    (.cond (.t 37)
     (.seq (.kill [] [] (.region [
         (.p 4 .id [.c (.pv (.bool false))], none)]))
      .ret)
     .skip))
   (.seq (.seq (.kill [3] [3] (.region [
        (.p 38 (.fieldAddr 0) [.t 3], none),
        (.load 39 none (some 3) (.t 38), none)]))
     (.block 0 (.seq (.block 3 (.seq (.block 2 (.seq (.block 1 (.seq (.seq (.seq (.seq (.kill [3, 39] [3] (.region [
                   (.p 41 (.bin .eql) [.t 39, .c (.pv (.int .i64 1))], none),
                   (.p 40 .id [.t 41], none)]))
                (.cond (.t 40)
                 .skip
                 (.kill [3, 39] [3] (.region [
                    (.p 42 (.bin .eql) [.t 39, .c (.pv (.int .i64 5))], none),
                    (.p 40 .id [.t 42], none)]))))
               (.cond (.t 40)
                (.exit 1)
                .skip))
              (.seq (.seq (.seq (.kill [3, 39] [3] (.region [
                    (.p 44 (.bin .eql) [.t 39, .c (.pv (.int .i64 2))], none),
                    (.p 43 .id [.t 44], none)]))
                 (.cond (.t 43)
                  .skip
                  (.kill [3, 39] [3] (.region [
                     (.p 45 (.bin .eql) [.t 39, .c (.pv (.int .i64 3))], none),
                     (.p 43 .id [.t 45], none)]))))
                (.cond (.t 43)
                 (.exit 2)
                 .skip))
               (.seq (.kill [39] [] (.region [
                   (.p 47 (.bin .eql) [.t 39, .c (.pv (.int .i64 4))], none),
                   (.p 46 .id [.t 47], none)]))
                (.cond (.t 46)
                 (.exit 3)
                 .skip))))
             (.exit 0)))
           (.seq (.kill [3] [3] (.region [
               (.p 48 (.fieldAddr 2) [.t 3], none),
               (.load 49 none (some 3) (.t 48), none),
               (.p 50 (.bin .neq) [.t 49, .c (.pv (.int .i64 0))], none)]))
            (.cond (.t 50)
             (.seq (.kill [] [] (.region [
                 (.p 4 .id [.c (.pv (.bool false))], none)]))
              .ret)
             .skip))))
         (.seq (.seq (.kill [3] [3] (.region [
              (.p 51 (.fieldAddr 3) [.t 3], none),
              (.load 52 none (some 3) (.t 51), none),
              (.p 53 (.bin .eql) [.t 52, .c (.pv (.int .i64 0))], none),
              (.p 4 .id [.t 53], none)]))
           .ret)
          (.exit 0))))
       (.seq (.seq (.kill [] [] (.region [
            (.p 4 .id [.c (.pv (.bool true))], none)]))
         .ret)
        (.exit 0)))))
    (.seq (.kill [] [] (.region [
        (.p 4 .id [.c (.pv (.bool false))], none)]))
     .ret)))))
theorem okReqsRight : okFn Try.prog Try.f33 irReqsRight [.t 4] [] 2 = true := by kernel_rfl

-- reqs.formed
-- reqs.formed: args [36]; lent []; rs [.t 2]; loops: 
def irReqsFormed : IR := (.seq (.region [
    (.box 1 (.t 0), none),
    (.p 2 .id [.c (.pv (.bool false))], none)])
 (.seq (.kill [1] [1] (.region [
     (.p 3 (.fieldAddr 0) [.t 1], none),
     (.load 4 none (some 1) (.t 3), none),
     (.p 5 (.bin .geq) [.t 4, .c (.pv (.int .i64 0))], none),
     (.p 6 .id [.t 5], none),
     (.p 7 (.fieldAddr 0) [.t 1], some (6, true)),
     (.load 8 none (some 1) (.t 7), some (6, true)),
     (.p 9 (.bin .lss) [.t 8, .c (.pv (.int .i64 6))], some (6, true)),
     (.p 10 .pick [.t 6, .t 9, .c (.pv (.bool false))], none),
     (.p 11 .id [.t 10], none),
     (.p 12 (.fieldAddr 1) [.t 1], some (11, true)),
     (.load 13 none (some 1) (.t 12), some (11, true)),
     (.p 14 (.bin .geq) [.t 13, .c (.pv (.int .i64 1))], some (11, true)),
     (.p 15 .pick [.t 11, .t 14, .c (.pv (.bool false))], none),
     (.p 16 .id [.t 15], none),
     (.p 17 (.fieldAddr 1) [.t 1], some (16, true)),
     (.load 18 none (some 1) (.t 17), some (16, true)),
     (.p 19 (.bin .leq) [.t 18, .c (.pv (.int .i64 8))], some (16, true)),
     (.p 20 .pick [.t 16, .t 19, .c (.pv (.bool false))], none),
     (.p 21 .id [.t 20], none),
     (.p 22 (.fieldAddr 0) [.t 1], some (21, true)),
     (.load 23 none (some 1) (.t 22), some (21, true)),
     (.p 24 (.fieldAddr 2) [.t 1], some (21, true)),
     (.load 25 (some (4, false)) (some 1) (.t 24), some (21, true)),
     (.call 26 33 [.t 23, .t 25] [] [] [], some (21, true)),
     (.p 27 .pick [.t 21, .t 26, .c (.pv (.bool false))], none),
     (.p 28 .id [.t 27], none),
     (.p 29 (.fieldAddr 6) [.t 1], some (28, true)),
     (.load 30 none (some 1) (.t 29), some (28, true)),
     (.p 31 (.len none) [.t 30], some (28, true)),
     (.p 32 (.bin .leq) [.t 31, .c (.pv (.int .i64 1000))], some (28, true)),
     (.p 33 .pick [.t 28, .t 32, .c (.pv (.bool false))], none),
     (.p 2 .id [.t 33], none)]))
  .ret))
theorem okReqsFormed : okFn Try.prog Try.f28 irReqsFormed [.t 2] [] 1 = true := by kernel_rfl

-- reqs.Text
-- reqs.Text: args [36]; lent []; rs [.t 2]; loops: L1 keeps [1, 3, 19, 20] [1]
def irReqsText_L1 : IR := (.seq (.kill [1, 3, 19, 20] [1] (.region [
     (.p 21 (.bin .lss) [.t 20, .c (.pv (.int .i64 4))], none)]))
  (.seq (.cond (.t 21)
    .skip
    (.exit 0))
   (.seq (.block 1 (.seq (.kill [1, 3, 19, 20] [1] (.region [
         (.p 22 (.index 4 1 none) [.t 19, .t 20], none),
         (.p 5 .id [.t 22], none)]))
      (.kill [1, 3, 5, 19, 20] [1] (.region [
         (.mv 23 3, none),
         (.p 24 .id [.t 5], none),
         (.p 25 (.conv .u64) [.t 24], none),
         (.call 26 35 [.t 23, .t 25, .c (.pv (.int .i64 1))] [] [] [], none),
         (.mv 3 26, none)]))))
    (.kill [1, 3, 19, 20] [1] (.region [
       (.p 27 (.bin .add) [.t 20, .c (.pv (.int .i64 1))], none),
       (.p 20 .id [.t 27], none)])))))
def irReqsText : IR := (.seq (.region [
    (.box 1 (.t 0), none),
    (.p 2 .id [.c (.os 5 1 [])], none)])
 (.seq (.seq (.kill [1] [1] (.region [
      (.load 6 (some (7, true)) (some 1) (.t 1), none),
      (.call 7 28 [.t 6] [] [] [], none),
      (.p 8 (.un .not) [.t 7], none)]))
   (.cond (.t 8)
    (.seq (.kill [] [] (.region [
        (.p 2 .id [.c (.os 5 1 [])], none)]))
     .ret)
    .skip))
  (.seq (.kill [1] [1] (.region [
      (.p 3 .id [.c (.os 5 1 [])], none)]))
   (.seq (.seq (.kill [1, 3] [1] (.region [
        (.p 9 (.fieldAddr 0) [.t 1], none),
        (.load 10 none (some 1) (.t 9), none),
        (.p 11 (.fieldAddr 1) [.t 1], none),
        (.load 12 none (some 1) (.t 11), none),
        (.p 13 (.fieldAddr 2) [.t 1], none),
        (.p 14 (.fieldAddr 0) [.t 13], none),
        (.load 15 none (some 1) (.t 14), none),
        (.p 16 (.fieldAddr 2) [.t 1], none),
        (.p 17 (.fieldAddr 1) [.t 16], none),
        (.load 18 none (some 1) (.t 17), none),
        (.build 19 (.pagg (List.replicate 4 (.int .i64 0))) [(0, 1, .t 10), (1, 1, .t 12), (2, 1, .t 15), (3, 1, .t 18)], none),
        (.p 20 .id [.c (.pv (.int .i64 0))], none)]))
     (.block 0 (.loop (.kill [1, 3, 19, 20] [1] irReqsText_L1))))
    (.seq (.kill [1, 3] [1] (.region [
        (.mv 28 3, none),
        (.p 29 (.fieldAddr 2) [.t 1], none),
        (.p 30 (.fieldAddr 2) [.t 29], none),
        (.load 31 none (some 1) (.t 30), none),
        (.call 32 36 [.t 28, .t 31] [] [] [], none),
        (.p 33 (.fieldAddr 2) [.t 1], none),
        (.p 34 (.fieldAddr 3) [.t 33], none),
        (.load 35 none (some 1) (.t 34), none),
        (.call 36 36 [.t 32, .t 35] [] [] [], none),
        (.mv 2 36, none)]))
     .ret)))))
theorem okReqsText : okFn Try.prog Try.f30 irReqsText [.t 2] [] 1 = true := by kernel_rfl

-- reqs.Put
-- reqs.Put: args [36]; lent []; rs [.t 2, .t 3]; loops: 
def irReqsPut : IR := (.seq (.region [
    (.box 1 (.t 0), none),
    (.p 2 .id [.c (.os 5 1 [])], none),
    (.p 3 .id [.c (.pv (.int .i64 0))], none)])
 (.seq (.seq (.kill [1] [1] (.region [
      (.load 4 (some (7, true)) (some 1) (.t 1), none),
      (.call 5 28 [.t 4] [] [] [], none),
      (.p 6 (.un .not) [.t 5], none)]))
   (.cond (.t 6)
    (.seq (.kill [] [] (.region [
        (.p 2 .id [.c (.os 5 1 [])], none),
        (.p 3 .id [.c (.pv (.int .i64 15))], none)]))
     .ret)
    .skip))
  (.seq (.kill [1] [1] (.region [
      (.load 7 (some (7, true)) (some 1) (.t 1), none),
      (.call 8 30 [.t 7] [] [] [], none),
      (.call 9 29 [.c (.os 5 1 []), .t 8] [] [] [], none),
      (.p 10 (.fieldAddr 6) [.t 1], none),
      (.load 11 none (some 1) (.t 10), none),
      (.call 12 29 [.t 9, .t 11] [] [] [], none),
      (.mv 2 12, none),
      (.p 3 .id [.c (.pv (.int .i64 0))], none)]))
   .ret)))
theorem okReqsPut : okFn Try.prog Try.f24 irReqsPut [.t 2, .t 3] [] 1 = true := by kernel_rfl

-- consistoryref07.Right
-- consistoryref07.Right: args [3, 33]; lent []; rs [.t 4]; loops: 
def irRef07Right : IR := (.seq (.region [
    (.box 3 (.t 1), none),
    (.p 4 .id [.c (.pv (.bool false))], none)])
 (.seq (.seq (.kill [0, 3] [3] (.region [
      (.p 5 .id [.t 0], none),
      (.p 6 (.bin .eql) [.t 5, .c (.pv (.int .i64 0))], none)]))
   (.cond (.t 6)
    (.seq (.kill [3] [3] (.region [
        (.p 7 (.fieldAddr 0) [.t 3], none),
        (.load 8 none (some 3) (.t 7), none),
        (.p 9 (.bin .eql) [.t 8, .c (.pv (.int .i64 6))], none),
        (.p 10 .id [.t 9], none),
        (.p 11 (.fieldAddr 1) [.t 3], some (10, true)),
        (.load 12 none (some 3) (.t 11), some (10, true)),
        (.p 13 (.bin .eql) [.t 12, .c (.pv (.int .i64 0))], some (10, true)),
        (.p 14 .pick [.t 10, .t 13, .c (.pv (.bool false))], none),
        (.p 15 .id [.t 14], none),
        (.p 16 (.fieldAddr 3) [.t 3], some (15, true)),
        (.load 17 none (some 3) (.t 16), some (15, true)),
        (.p 18 (.bin .eql) [.t 17, .c (.pv (.int .i64 0))], some (15, true)),
        (.p 19 .pick [.t 15, .t 18, .c (.pv (.bool false))], none),
        (.p 20 .id [.t 19], none),
        (.p 21 (.fieldAddr 2) [.t 3], some (20, true)),
        (.load 22 none (some 3) (.t 21), some (20, true)),
        (.p 23 (.bin .geq) [.t 22, .c (.pv (.int .i64 0))], some (20, true)),
        (.p 24 .pick [.t 20, .t 23, .c (.pv (.bool false))], none),
        (.p 25 .id [.t 24], none),
        (.p 26 (.fieldAddr 2) [.t 3], some (25, true)),
        (.load 27 none (some 3) (.t 26), some (25, true)),
        (.p 28 (.bin .leq) [.t 27, .c (.pv (.int .i64 65535))], some (25, true)),
        (.p 29 .pick [.t 25, .t 28, .c (.pv (.bool false))], none),
        (.p 4 .id [.t 29], none)]))
     .ret)
    .skip))
  (.seq (.seq (.kill [3] [3] (.region [
       (.p 30 (.fieldAddr 0) [.t 3], none),
       (.load 31 none (some 3) (.t 30), none),
       (.p 32 (.bin .lss) [.t 31, .c (.pv (.int .i64 1))], none),
       (.p 33 .id [.t 32], none),
       (.p 34 (.fieldAddr 0) [.t 3], some (33, false)),
       (.load 35 none (some 3) (.t 34), some (33, false)),
       (.p 36 (.bin .gtr) [.t 35, .c (.pv (.int .i64 5))], some (33, false)),
       (.p 37 .pick [.t 33, .c (.pv (.bool true)), .t 36], none),
       (.p 38 .id [.t 37], none),
       (.p 39 (.fieldAddr 1) [.t 3], some (38, false)),
       (.load 40 none (some 3) (.t 39), some (38, false)),
       (.p 41 (.bin .lss) [.t 40, .c (.pv (.int .i64 0))], some (38, false)),
       (.p 42 .pick [.t 38, .c (.pv (.bool true)), .t 41], none),
       (.p 43 .id [.t 42], none),
       (.p 44 (.fieldAddr 1) [.t 3], some (43, false)),
       (.load 45 none (some 3) (.t 44), some (43, false)),
       (.p 46 (.bin .gtr) [.t 45, .c (.pv (.int .i64 15))], some (43, false)),
       (.p 47 .pick [.t 43, .c (.pv (.bool true)), .t 46], none)]))
    (.cond (.t 47)
     (.seq (.kill [] [] (.region [
         (.p 4 .id [.c (.pv (.bool false))], none)]))
      .ret)
     .skip))
   (.seq (.seq (.kill [3] [3] (.region [
        (.p 48 (.fieldAddr 0) [.t 3], none),
        (.load 49 none (some 3) (.t 48), none),
        (.p 50 (.bin .eql) [.t 49, .c (.pv (.int .i64 1))], none),
        (.p 51 .id [.t 50], none),
        (.p 52 (.fieldAddr 0) [.t 3], some (51, false)),
        (.load 53 none (some 3) (.t 52), some (51, false)),
        (.p 54 (.bin .eql) [.t 53, .c (.pv (.int .i64 5))], some (51, false)),
        (.p 55 .pick [.t 51, .c (.pv (.bool true)), .t 54], none),
        (.p 56 .id [.t 55], none),
        (.p 57 (.fieldAddr 2) [.t 3], some (56, true)),
        (.load 58 none (some 3) (.t 57), some (56, true)),
        (.p 59 (.bin .neq) [.t 58, .c (.pv (.int .i64 0))], some (56, true)),
        (.p 60 .pick [.t 56, .t 59, .c (.pv (.bool false))], none)]))
     (.cond (.t 60)
      (.seq (.kill [] [] (.region [
          (.p 4 .id [.c (.pv (.bool false))], none)]))
       .ret)
      .skip))
    (.seq (.kill [3] [3] (.region [
        (.p 61 (.fieldAddr 0) [.t 3], none),
        (.load 62 none (some 3) (.t 61), none),
        (.p 63 (.bin .eql) [.t 62, .c (.pv (.int .i64 4))], none),
        (.p 64 .id [.t 63], none),
        (.p 65 (.fieldAddr 3) [.t 3], some (64, false)),
        (.load 66 none (some 3) (.t 65), some (64, false)),
        (.p 67 (.bin .eql) [.t 66, .c (.pv (.int .i64 0))], some (64, false)),
        (.p 68 .pick [.t 64, .c (.pv (.bool true)), .t 67], none),
        (.p 4 .id [.t 68], none)]))
     .ret)))))
theorem okRef07Right : okFn Try.prog Try.f32 irRef07Right [.t 4] [] 2 = true := by kernel_rfl

-- consistoryref07.Formed
-- consistoryref07.Formed: args [36]; lent []; rs [.t 2]; loops: 
def irRef07Formed : IR := (.seq (.region [
    (.box 1 (.t 0), none),
    (.p 2 .id [.c (.pv (.bool false))], none)])
 (.seq (.kill [1] [1] (.region [
     (.p 3 (.fieldAddr 0) [.t 1], none),
     (.load 4 none (some 1) (.t 3), none),
     (.p 5 (.bin .geq) [.t 4, .c (.pv (.int .i64 0))], none),
     (.p 6 .id [.t 5], none),
     (.p 7 (.fieldAddr 0) [.t 1], some (6, true)),
     (.load 8 none (some 1) (.t 7), some (6, true)),
     (.p 9 (.bin .leq) [.t 8, .c (.pv (.int .i64 5))], some (6, true)),
     (.p 10 .pick [.t 6, .t 9, .c (.pv (.bool false))], none),
     (.p 11 .id [.t 10], none),
     (.p 12 (.fieldAddr 1) [.t 1], some (11, true)),
     (.load 13 none (some 1) (.t 12), some (11, true)),
     (.p 14 (.bin .geq) [.t 13, .c (.pv (.int .i64 1))], some (11, true)),
     (.p 15 .pick [.t 11, .t 14, .c (.pv (.bool false))], none),
     (.p 16 .id [.t 15], none),
     (.p 17 (.fieldAddr 1) [.t 1], some (16, true)),
     (.load 18 none (some 1) (.t 17), some (16, true)),
     (.p 19 (.bin .leq) [.t 18, .c (.pv (.int .i64 8))], some (16, true)),
     (.p 20 .pick [.t 16, .t 19, .c (.pv (.bool false))], none),
     (.p 21 .id [.t 20], none),
     (.p 22 (.fieldAddr 0) [.t 1], some (21, true)),
     (.load 23 none (some 1) (.t 22), some (21, true)),
     (.p 24 (.fieldAddr 2) [.t 1], some (21, true)),
     (.load 25 (some (4, false)) (some 1) (.t 24), some (21, true)),
     (.call 26 32 [.t 23, .t 25] [] [] [], some (21, true)),
     (.p 27 .pick [.t 21, .t 26, .c (.pv (.bool false))], none),
     (.p 28 .id [.t 27], none),
     (.p 29 (.fieldAddr 6) [.t 1], some (28, true)),
     (.load 30 none (some 1) (.t 29), some (28, true)),
     (.p 31 (.len none) [.t 30], some (28, true)),
     (.p 32 (.bin .leq) [.t 31, .c (.pv (.int .i64 1000))], some (28, true)),
     (.p 33 .pick [.t 28, .t 32, .c (.pv (.bool false))], none),
     (.p 2 .id [.t 33], none)]))
  .ret))
theorem okRef07Formed : okFn Try.prog Try.f26 irRef07Formed [.t 2] [] 1 = true := by kernel_rfl

-- consistoryref07.Same
-- consistoryref07.Same: args [36, 36]; lent []; rs [.t 4]; loops: 
def irRef07Same : IR := (.seq (.region [
    (.box 2 (.t 0), none),
    (.box 3 (.t 1), none),
    (.p 4 .id [.c (.pv (.bool false))], none)])
 (.seq (.kill [2, 3] [2, 3] (.region [
     (.p 5 (.fieldAddr 0) [.t 2], none),
     (.load 6 none (some 2) (.t 5), none),
     (.p 7 (.fieldAddr 0) [.t 3], none),
     (.load 8 none (some 3) (.t 7), none),
     (.p 9 (.bin .eql) [.t 6, .t 8], none),
     (.p 10 .id [.t 9], none),
     (.p 11 (.fieldAddr 1) [.t 2], some (10, true)),
     (.load 12 none (some 2) (.t 11), some (10, true)),
     (.p 13 (.fieldAddr 1) [.t 3], some (10, true)),
     (.load 14 none (some 3) (.t 13), some (10, true)),
     (.p 15 (.bin .eql) [.t 12, .t 14], some (10, true)),
     (.p 16 .pick [.t 10, .t 15, .c (.pv (.bool false))], none),
     (.p 17 .id [.t 16], none),
     (.p 18 (.fieldAddr 2) [.t 2], some (17, true)),
     (.load 19 (some (4, false)) (some 2) (.t 18), some (17, true)),
     (.p 20 (.fieldAddr 2) [.t 3], some (17, true)),
     (.load 21 (some (4, false)) (some 3) (.t 20), some (17, true)),
     (.p 22 (.seq false [.i .i64, .i .i64, .i .i64, .i .i64]) [.t 19, .t 21], some (17, true)),
     (.p 23 .pick [.t 17, .t 22, .c (.pv (.bool false))], none),
     (.p 24 .id [.t 23], none),
     (.p 25 (.fieldAddr 6) [.t 2], some (24, true)),
     (.load 26 none (some 2) (.t 25), some (24, true)),
     (.p 27 (.fieldAddr 6) [.t 3], some (24, true)),
     (.load 28 none (some 3) (.t 27), some (24, true)),
     (.call 29 27 [.t 26, .t 28] [] [] [], some (24, true)),
     (.p 30 .pick [.t 24, .t 29, .c (.pv (.bool false))], none),
     (.p 4 .id [.t 30], none)]))
  .ret))
theorem okRef07Same : okFn Try.prog Try.f16 irRef07Same [.t 4] [] 2 = true := by kernel_rfl

end Go.Proofs.Ytcceiicpploclaa
