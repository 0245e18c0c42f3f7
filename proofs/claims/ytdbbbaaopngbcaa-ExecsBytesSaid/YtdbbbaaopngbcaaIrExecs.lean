/- The abstract code of functions, printed by gen_ir.py out of the program's form in Lean; each is checked against it. -/
import Derived.Test.YtdbbbaaopngbcaaProg
import Derived.Test.YtdbbbaaopngbcaaAbs2
set_option linter.unusedVariables false
set_option linter.unusedSimpArgs false
set_option maxRecDepth 100000
namespace Go.Proofs.Ytdbbbaaopngbcaa
open Go.Abs
-- math/bits.OnesCount16
-- math/bits.OnesCount16: args [22]; lent []; rs [.t 2]; loops: 
def strMathBitsOnesCount16_1 : ByteArray := ⟨#[0, 1, 1, 2, 1, 2, 2, 3, 1, 2, 2, 3, 2, 3, 3, 4, 1, 2, 2, 3, 2, 3, 3, 4, 2, 3, 3, 4, 3, 4, 4, 5, 1, 2, 2, 3, 2, 3, 3, 4, 2, 3, 3, 4, 3, 4, 4, 5, 2, 3, 3, 4, 3, 4, 4, 5, 3, 4, 4, 5, 4, 5, 5, 6, 1, 2, 2, 3, 2, 3, 3, 4, 2, 3, 3, 4, 3, 4, 4, 5, 2, 3, 3, 4, 3, 4, 4, 5, 3, 4, 4, 5, 4, 5, 5, 6, 2, 3, 3, 4, 3, 4, 4, 5, 3, 4, 4, 5, 4, 5, 5, 6, 3, 4, 4, 5, 4, 5, 5, 6, 4, 5, 5, 6, 5, 6, 6, 7, 1, 2, 2, 3, 2, 3, 3, 4, 2, 3, 3, 4, 3, 4, 4, 5, 2, 3, 3, 4, 3, 4, 4, 5, 3, 4, 4, 5, 4, 5, 5, 6, 2, 3, 3, 4, 3, 4, 4, 5, 3, 4, 4, 5, 4, 5, 5, 6, 3, 4, 4, 5, 4, 5, 5, 6, 4, 5, 5, 6, 5, 6, 6, 7, 2, 3, 3, 4, 3, 4, 4, 5, 3, 4, 4, 5, 4, 5, 5, 6, 3, 4, 4, 5, 4, 5, 5, 6, 4, 5, 5, 6, 5, 6, 6, 7, 3, 4, 4, 5, 4, 5, 5, 6, 4, 5, 5, 6, 5, 6, 6, 7, 4, 5, 5, 6, 5, 6, 6, 7, 5, 6, 6, 7, 6, 7, 7, 8]⟩
def irMathBitsOnesCount16 : IR := (.seq (.region [
    (.p 2 .id [.c (.pv (.int .i64 0))], none)])
 (.seq (.kill [0] [] (.region [
     (.p 3 .id [.t 0], none),
     (.p 4 (.bin .shr) [.t 3, .c (.pv (.int .u64 8))], none),
     (.p 5 .sidx [.c (.pv (.str strMathBitsOnesCount16_1)), .t 4], none),
     (.p 6 .id [.t 0], none),
     (.p 7 (.bin .and) [.t 6, .c (.pv (.int .u16 255))], none),
     (.p 8 .sidx [.c (.pv (.str strMathBitsOnesCount16_1)), .t 7], none),
     (.p 9 (.bin .add) [.t 5, .t 8], none),
     (.p 10 (.conv .i64) [.t 9], none),
     (.p 2 .id [.t 10], none)]))
  .ret))
theorem okMathBitsOnesCount16 : okFn Try.prog Try.f80 irMathBitsOnesCount16 [.t 2] [] 1 = true := by kernel_rfl

-- views.count
-- views.count: args [24]; lent []; rs [.t 2]; loops: 
def irViewsCount : IR := (.seq (.region [
    (.box 1 (.t 0), none),
    (.p 2 .id [.c (.pv (.int .i64 0))], none)])
 (.seq (.kill [1] [1] (.region [
     (.p 3 (.fieldAddr 1) [.t 1], none),
     (.load 4 none (some 1) (.t 3), none),
     (.call 5 80 [.t 4] [] [] [], none),
     (.p 2 .id [.t 5], none)]))
  .ret))
theorem okViewsCount : okFn Try.prog Try.f71 irViewsCount [.t 2] [] 1 = true := by kernel_rfl

-- views.Right
-- views.Right: args [24]; lent []; rs [.t 2]; loops: 
def irViewsRight : IR := (.seq (.region [
    (.box 1 (.t 0), none),
    (.p 2 .id [.c (.pv (.bool false))], none)])
 (.seq (.kill [1] [1] (.region [
     (.load 4 (some (2, true)) (some 1) (.t 1), none),
     (.call 5 71 [.t 4] [] [] [], none),
     (.p 3 .id [.t 5], none)]))
  (.seq (.kill [1, 3] [1] (.region [
      (.p 6 (.fieldAddr 0) [.t 1], none),
      (.load 7 none (some 1) (.t 6), none),
      (.p 8 (.bin .geq) [.t 7, .c (.pv (.int .i64 0))], none),
      (.p 9 .id [.t 8], none),
      (.p 10 (.fieldAddr 0) [.t 1], some (9, true)),
      (.load 11 none (some 1) (.t 10), some (9, true)),
      (.p 12 (.bin .leq) [.t 11, .c (.pv (.int .i64 60))], some (9, true)),
      (.p 13 .pick [.t 9, .t 12, .c (.pv (.bool false))], none),
      (.p 14 .id [.t 13], none),
      (.p 15 .id [.t 3], some (14, true)),
      (.p 16 (.bin .geq) [.t 15, .c (.pv (.int .i64 4))], some (14, true)),
      (.p 17 .pick [.t 14, .t 16, .c (.pv (.bool false))], none),
      (.p 18 .id [.t 17], none),
      (.p 19 .id [.t 3], some (18, true)),
      (.p 20 (.bin .leq) [.t 19, .c (.pv (.int .i64 7))], some (18, true)),
      (.p 21 .pick [.t 18, .t 20, .c (.pv (.bool false))], none),
      (.p 2 .id [.t 21], none)]))
   .ret)))
theorem okViewsRight : okFn Try.prog Try.f50 irViewsRight [.t 2] [] 1 = true := by kernel_rfl

-- views.Next
-- views.Next: args [24, 2]; lent []; rs [.cell 4 (some (2, true)), .t 5]; loops: 
def irViewsNext : IR := (.seq (.region [
    (.box 2 (.t 0), none),
    (.alloc 4 (.pagg [.int .i64 0, .int .u16 0]), none),
    (.p 5 .id [.c (.pv (.int .i64 0))], none)])
 (.seq (.seq (.kill [1, 2, 4] [2, 4] (.region [
      (.load 7 (some (2, true)) (some 2) (.t 2), none),
      (.call 8 50 [.t 7] [] [] [], none),
      (.p 9 (.un .not) [.t 8], none),
      (.p 10 .id [.t 9], none),
      (.p 11 .id [.t 1], some (10, false)),
      (.p 12 (.bin .lss) [.t 11, .c (.pv (.int .i64 0))], some (10, false)),
      (.p 13 .pick [.t 10, .c (.pv (.bool true)), .t 12], none),
      (.p 14 .id [.t 13], none),
      (.p 15 .id [.t 1], some (14, false)),
      (.p 16 (.bin .gtr) [.t 15, .c (.pv (.int .i64 65535))], some (14, false)),
      (.p 17 .pick [.t 14, .c (.pv (.bool true)), .t 16], none)]))
   (.cond (.t 17)
    (.seq (.kill [4] [4] (.region [
        (.build 18 (.pagg [.int .i64 0, .int .u16 0]) [], none),
        (.store (some (2, true)) (some 4) (.t 4) (.t 18), none),
        (.p 5 .id [.c (.pv (.int .i64 3))], none)]))
     .ret)
    .skip))
  (.seq (.kill [1, 2, 4] [2, 4] (.region [
      (.p 19 (.fieldAddr 0) [.t 2], none),
      (.load 20 none (some 2) (.t 19), none),
      (.p 21 (.bin .add) [.t 20, .c (.pv (.int .i64 1))], none),
      (.p 22 .id [.t 1], none),
      (.p 23 (.conv .u16) [.t 22], none),
      (.build 24 (.pagg [.int .i64 0, .int .u16 0]) [(0, 1, .t 21), (1, 1, .t 23)], none),
      (.alloc 6 (.pagg [.int .i64 0, .int .u16 0]), none),
      (.store (some (2, true)) (some 6) (.t 6) (.t 24), none)]))
   (.seq (.seq (.kill [4, 6] [4, 6] (.region [
        (.load 25 (some (2, true)) (some 6) (.t 6), none),
        (.call 26 50 [.t 25] [] [] [], none),
        (.p 27 (.un .not) [.t 26], none)]))
     (.cond (.t 27)
      (.seq (.kill [4] [4] (.region [
          (.build 28 (.pagg [.int .i64 0, .int .u16 0]) [], none),
          (.store (some (2, true)) (some 4) (.t 4) (.t 28), none),
          (.p 5 .id [.c (.pv (.int .i64 3))], none)]))
       .ret)
      .skip))
    (.seq (.kill [4, 6] [4, 6] (.region [
        (.load 29 (some (2, true)) (some 6) (.t 6), none),
        (.store (some (2, true)) (some 4) (.t 4) (.t 29), none),
        (.p 5 .id [.c (.pv (.int .i64 0))], none)]))
     .ret)))))
theorem okViewsNext : okFn Try.prog Try.f23 irViewsNext [.cell 4 (some (2, true)), .t 5] [] 2 = true := by kernel_rfl

-- consistoryref06.Members
-- consistoryref06.Members: args [24]; lent []; rs [.t 2]; loops: L1 keeps [3, 4, 5] []
def irRef06Members_L1 : IR := (.seq (.seq (.kill [3, 4, 5] [] (.region [
      (.p 9 .id [.t 5], none),
      (.p 10 (.bin .lss) [.t 9, .c (.pv (.int .i64 16))], none)]))
   (.cond (.t 10)
    .skip
    (.exit 0)))
  (.seq (.block 1 (.seq (.seq (.kill [3, 4, 5] [] (.region [
         (.p 13 .id [.t 4], none),
         (.p 14 (.bin .rem) [.t 13, .c (.pv (.int .i64 2))], none),
         (.p 15 (.bin .eql) [.t 14, .c (.pv (.int .i64 1))], none)]))
      (.cond (.t 15)
       (.kill [3, 4, 5] [] (.region [
          (.mv 16 3, none),
          (.p 17 .id [.t 5], none),
          (.bslice 18 3 1 1 [.int .i64 0] [(0, .t 17)], none),
          (.app 19 3 1 16 none (.t 18), none),
          (.mv 3 19, none)]))
       .skip))
     (.kill [3, 4, 5] [] (.region [
        (.p 20 .id [.t 4], none),
        (.p 21 (.bin .quo) [.t 20, .c (.pv (.int .i64 2))], none),
        (.p 4 .id [.t 21], none)]))))
   (.kill [3, 4, 5] [] (.region [
      (.p 11 .id [.t 5], none),
      (.p 12 (.bin .add) [.t 11, .c (.pv (.int .i64 1))], none),
      (.p 5 .id [.t 12], none)]))))
def irRef06Members : IR := (.seq (.region [
    (.box 1 (.t 0), none),
    (.p 2 .id [.c (.os 3 1 [])], none)])
 (.seq (.kill [1] [1] (.region [
     (.p 3 .id [.c (.os 3 1 [])], none)]))
  (.seq (.kill [1, 3] [1] (.region [
      (.p 6 (.fieldAddr 1) [.t 1], none),
      (.load 7 none (some 1) (.t 6), none),
      (.p 8 (.conv .i64) [.t 7], none),
      (.p 4 .id [.t 8], none)]))
   (.seq (.seq (.kill [3, 4] [] (.region [
        (.p 5 .id [.c (.pv (.int .i64 0))], none)]))
     (.block 0 (.loop (.kill [3, 4, 5] [] irRef06Members_L1))))
    (.seq (.kill [3] [] (.region [
        (.mv 22 3, none),
        (.mv 2 22, none)]))
     .ret)))))
theorem okRef06Members : okFn Try.prog Try.f70 irRef06Members [.t 2] [] 1 = true := by kernel_rfl

-- consistoryref06.Right
-- consistoryref06.Right: args [24]; lent []; rs [.t 2]; loops: 
def irRef06Right : IR := (.seq (.region [
    (.box 1 (.t 0), none),
    (.p 2 .id [.c (.pv (.bool false))], none)])
 (.seq (.kill [1] [1] (.region [
     (.load 4 (some (2, true)) (some 1) (.t 1), none),
     (.call 5 70 [.t 4] [] [] [], none),
     (.p 6 (.len none) [.t 5], none),
     (.p 3 .id [.t 6], none)]))
  (.seq (.kill [1, 3] [1] (.region [
      (.p 7 (.fieldAddr 0) [.t 1], none),
      (.load 8 none (some 1) (.t 7), none),
      (.p 9 (.bin .geq) [.t 8, .c (.pv (.int .i64 0))], none),
      (.p 10 .id [.t 9], none),
      (.p 11 (.fieldAddr 0) [.t 1], some (10, true)),
      (.load 12 none (some 1) (.t 11), some (10, true)),
      (.p 13 (.bin .leq) [.t 12, .c (.pv (.int .i64 60))], some (10, true)),
      (.p 14 .pick [.t 10, .t 13, .c (.pv (.bool false))], none),
      (.p 15 .id [.t 14], none),
      (.p 16 .id [.t 3], some (15, true)),
      (.p 17 (.bin .geq) [.t 16, .c (.pv (.int .i64 4))], some (15, true)),
      (.p 18 .pick [.t 15, .t 17, .c (.pv (.bool false))], none),
      (.p 19 .id [.t 18], none),
      (.p 20 .id [.t 3], some (19, true)),
      (.p 21 (.bin .leq) [.t 20, .c (.pv (.int .i64 7))], some (19, true)),
      (.p 22 .pick [.t 19, .t 21, .c (.pv (.bool false))], none),
      (.p 2 .id [.t 22], none)]))
   .ret)))
theorem okRef06Right : okFn Try.prog Try.f48 irRef06Right [.t 2] [] 1 = true := by kernel_rfl

-- consistoryref06.Next
-- consistoryref06.Next: args [24, 2]; lent []; rs [.cell 4 (some (2, true)), .t 5]; loops: 
def irRef06Next : IR := (.seq (.region [
    (.box 2 (.t 0), none),
    (.alloc 4 (.pagg [.int .i64 0, .int .u16 0]), none),
    (.p 5 .id [.c (.pv (.int .i64 0))], none)])
 (.seq (.seq (.kill [1, 2, 4] [2, 4] (.region [
      (.load 7 (some (2, true)) (some 2) (.t 2), none),
      (.call 8 48 [.t 7] [] [] [], none),
      (.p 9 (.un .not) [.t 8], none),
      (.p 10 .id [.t 9], none),
      (.p 11 .id [.t 1], some (10, false)),
      (.p 12 (.bin .lss) [.t 11, .c (.pv (.int .i64 0))], some (10, false)),
      (.p 13 .pick [.t 10, .c (.pv (.bool true)), .t 12], none),
      (.p 14 .id [.t 13], none),
      (.p 15 .id [.t 1], some (14, false)),
      (.p 16 (.bin .gtr) [.t 15, .c (.pv (.int .i64 65535))], some (14, false)),
      (.p 17 .pick [.t 14, .c (.pv (.bool true)), .t 16], none)]))
   (.cond (.t 17)
    (.seq (.kill [4] [4] (.region [
        (.build 18 (.pagg [.int .i64 0, .int .u16 0]) [], none),
        (.store (some (2, true)) (some 4) (.t 4) (.t 18), none),
        (.p 5 .id [.c (.pv (.int .i64 3))], none)]))
     .ret)
    .skip))
  (.seq (.kill [1, 2, 4] [2, 4] (.region [
      (.p 19 (.fieldAddr 0) [.t 2], none),
      (.load 20 none (some 2) (.t 19), none),
      (.p 21 (.bin .add) [.t 20, .c (.pv (.int .i64 1))], none),
      (.p 22 .id [.t 1], none),
      (.p 23 (.conv .u16) [.t 22], none),
      (.build 24 (.pagg [.int .i64 0, .int .u16 0]) [(0, 1, .t 21), (1, 1, .t 23)], none),
      (.alloc 6 (.pagg [.int .i64 0, .int .u16 0]), none),
      (.store (some (2, true)) (some 6) (.t 6) (.t 24), none)]))
   (.seq (.seq (.kill [4, 6] [4, 6] (.region [
        (.load 25 (some (2, true)) (some 6) (.t 6), none),
        (.call 26 48 [.t 25] [] [] [], none),
        (.p 27 (.un .not) [.t 26], none)]))
     (.cond (.t 27)
      (.seq (.kill [4] [4] (.region [
          (.build 28 (.pagg [.int .i64 0, .int .u16 0]) [], none),
          (.store (some (2, true)) (some 4) (.t 4) (.t 28), none),
          (.p 5 .id [.c (.pv (.int .i64 3))], none)]))
       .ret)
      .skip))
    (.seq (.kill [4, 6] [4, 6] (.region [
        (.load 29 (some (2, true)) (some 6) (.t 6), none),
        (.store (some (2, true)) (some 4) (.t 4) (.t 29), none),
        (.p 5 .id [.c (.pv (.int .i64 0))], none)]))
     .ret)))))
theorem okRef06Next : okFn Try.prog Try.f26 irRef06Next [.cell 4 (some (2, true)), .t 5] [] 2 = true := by kernel_rfl

-- reqs.Right
-- reqs.Right: args [3, 50]; lent []; rs [.t 4]; loops: 
def irReqsRight : IR := (.seq (.region [
    (.box 3 (.t 1), none),
    (.p 4 .id [.c (.pv (.bool false))], none)])
 (.seq (.seq (.kill [0, 3] [3] (.region [
      (.p 5 .id [.t 0], none),
      (.p 6 (.bin .eql) [.t 5, .c (.pv (.int .i64 0))], none)]))
   (.cond (.t 6)
    (.seq (.kill [3] [3] (.region [
        (.p 7 (.fieldAddr 0) [.t 3], none),
        (.load 8 none (some 3) (.t 7), none),
        (.p 9 (.bin .eql) [.t 8, .c (.pv (.int .i64 6))], none),
        (.p 10 .id [.t 9], none),
        (.p 11 (.fieldAddr 1) [.t 3], some (10, true)),
        (.load 12 none (some 3) (.t 11), some (10, true)),
        (.p 13 (.bin .eql) [.t 12, .c (.pv (.int .i64 0))], some (10, true)),
        (.p 14 .pick [.t 10, .t 13, .c (.pv (.bool false))], none),
        (.p 15 .id [.t 14], none),
        (.p 16 (.fieldAddr 3) [.t 3], some (15, true)),
        (.load 17 none (some 3) (.t 16), some (15, true)),
        (.p 18 (.bin .eql) [.t 17, .c (.pv (.int .i64 0))], some (15, true)),
        (.p 19 .pick [.t 15, .t 18, .c (.pv (.bool false))], none),
        (.p 20 .id [.t 19], none),
        (.p 21 (.fieldAddr 2) [.t 3], some (20, true)),
        (.load 22 none (some 3) (.t 21), some (20, true)),
        (.p 23 (.bin .geq) [.t 22, .c (.pv (.int .i64 0))], some (20, true)),
        (.p 24 .pick [.t 20, .t 23, .c (.pv (.bool false))], none),
        (.p 25 .id [.t 24], none),
        (.p 26 (.fieldAddr 2) [.t 3], some (25, true)),
        (.load 27 none (some 3) (.t 26), some (25, true)),
        (.p 28 (.bin .leq) [.t 27, .c (.pv (.int .i64 65535))], some (25, true)),
        (.p 29 .pick [.t 25, .t 28, .c (.pv (.bool false))], none),
        (.p 4 .id [.t 29], none)]))
     .ret)
    .skip))
  (.seq (.seq (.kill [3] [3] (.region [
       (.p 30 (.fieldAddr 1) [.t 3], none),
       (.load 31 none (some 3) (.t 30), none),
       (.p 32 (.bin .lss) [.t 31, .c (.pv (.int .i64 0))], none),
       (.p 33 .id [.t 32], none),
       (.p 34 (.fieldAddr 1) [.t 3], some (33, false)),
       (.load 35 none (some 3) (.t 34), some (33, false)),
       (.p 36 (.bin .geq) [.t 35, .c (.pv (.int .i64 16))], some (33, false)),
       (.p 37 .pick [.t 33, .c (.pv (.bool true)), .t 36], none)]))
    (.cond (.t 37)
     (.seq (.kill [] [] (.region [
         (.p 4 .id [.c (.pv (.bool false))], none)]))
      .ret)
     .skip))
   (.seq (.seq (.kill [3] [3] (.region [
        (.p 38 (.fieldAddr 0) [.t 3], none),
        (.load 39 none (some 3) (.t 38), none)]))
     (.block 0 (.seq (.block 3 (.seq (.block 2 (.seq (.block 1 (.seq (.seq (.seq (.seq (.kill [3, 39] [3] (.region [
                   (.p 41 (.bin .eql) [.t 39, .c (.pv (.int .i64 1))], none),
                   (.p 40 .id [.t 41], none)]))
                (.cond (.t 40)
                 .skip
                 (.kill [3, 39] [3] (.region [
                    (.p 42 (.bin .eql) [.t 39, .c (.pv (.int .i64 5))], none),
                    (.p 40 .id [.t 42], none)]))))
               (.cond (.t 40)
                (.exit 1)
                .skip))
              (.seq (.seq (.seq (.kill [3, 39] [3] (.region [
                    (.p 44 (.bin .eql) [.t 39, .c (.pv (.int .i64 2))], none),
                    (.p 43 .id [.t 44], none)]))
                 (.cond (.t 43)
                  .skip
                  (.kill [3, 39] [3] (.region [
                     (.p 45 (.bin .eql) [.t 39, .c (.pv (.int .i64 3))], none),
                     (.p 43 .id [.t 45], none)]))))
                (.cond (.t 43)
                 (.exit 2)
                 .skip))
               (.seq (.kill [39] [] (.region [
                   (.p 47 (.bin .eql) [.t 39, .c (.pv (.int .i64 4))], none),
                   (.p 46 .id [.t 47], none)]))
                (.cond (.t 46)
                 (.exit 3)
                 .skip))))
             (.exit 0)))
           (.seq (.kill [3] [3] (.region [
               (.p 48 (.fieldAddr 2) [.t 3], none),
               (.load 49 none (some 3) (.t 48), none),
               (.p 50 (.bin .neq) [.t 49, .c (.pv (.int .i64 0))], none)]))
            (.cond (.t 50)
             (.seq (.kill [] [] (.region [
                 (.p 4 .id [.c (.pv (.bool false))], none)]))
              .ret)
             .skip))))
         (.seq (.seq (.kill [3] [3] (.region [
              (.p 51 (.fieldAddr 3) [.t 3], none),
              (.load 52 none (some 3) (.t 51), none),
              (.p 53 (.bin .eql) [.t 52, .c (.pv (.int .i64 0))], none),
              (.p 4 .id [.t 53], none)]))
           .ret)
          (.exit 0))))
       (.seq (.seq (.kill [] [] (.region [
            (.p 4 .id [.c (.pv (.bool true))], none)]))
         .ret)
        (.exit 0)))))
    (.seq (.kill [] [] (.region [
        (.p 4 .id [.c (.pv (.bool false))], none)]))
     .ret)))))
theorem okReqsRight : okFn Try.prog Try.f49 irReqsRight [.t 4] [] 2 = true := by kernel_rfl

-- consistoryref07.Right
-- consistoryref07.Right: args [3, 50]; lent []; rs [.t 4]; loops: 
def irRef07Right : IR := (.seq (.region [
    (.box 3 (.t 1), none),
    (.p 4 .id [.c (.pv (.bool false))], none)])
 (.seq (.seq (.kill [0, 3] [3] (.region [
      (.p 5 .id [.t 0], none),
      (.p 6 (.bin .eql) [.t 5, .c (.pv (.int .i64 0))], none)]))
   (.cond (.t 6)
    (.seq (.kill [3] [3] (.region [
        (.p 7 (.fieldAddr 0) [.t 3], none),
        (.load 8 none (some 3) (.t 7), none),
        (.p 9 (.bin .eql) [.t 8, .c (.pv (.int .i64 6))], none),
        (.p 10 .id [.t 9], none),
        (.p 11 (.fieldAddr 1) [.t 3], some (10, true)),
        (.load 12 none (some 3) (.t 11), some (10, true)),
        (.p 13 (.bin .eql) [.t 12, .c (.pv (.int .i64 0))], some (10, true)),
        (.p 14 .pick [.t 10, .t 13, .c (.pv (.bool false))], none),
        (.p 15 .id [.t 14], none),
        (.p 16 (.fieldAddr 3) [.t 3], some (15, true)),
        (.load 17 none (some 3) (.t 16), some (15, true)),
        (.p 18 (.bin .eql) [.t 17, .c (.pv (.int .i64 0))], some (15, true)),
        (.p 19 .pick [.t 15, .t 18, .c (.pv (.bool false))], none),
        (.p 20 .id [.t 19], none),
        (.p 21 (.fieldAddr 2) [.t 3], some (20, true)),
        (.load 22 none (some 3) (.t 21), some (20, true)),
        (.p 23 (.bin .geq) [.t 22, .c (.pv (.int .i64 0))], some (20, true)),
        (.p 24 .pick [.t 20, .t 23, .c (.pv (.bool false))], none),
        (.p 25 .id [.t 24], none),
        (.p 26 (.fieldAddr 2) [.t 3], some (25, true)),
        (.load 27 none (some 3) (.t 26), some (25, true)),
        (.p 28 (.bin .leq) [.t 27, .c (.pv (.int .i64 65535))], some (25, true)),
        (.p 29 .pick [.t 25, .t 28, .c (.pv (.bool false))], none),
        (.p 4 .id [.t 29], none)]))
     .ret)
    .skip))
  (.seq (.seq (.kill [3] [3] (.region [
       (.p 30 (.fieldAddr 0) [.t 3], none),
       (.load 31 none (some 3) (.t 30), none),
       (.p 32 (.bin .lss) [.t 31, .c (.pv (.int .i64 1))], none),
       (.p 33 .id [.t 32], none),
       (.p 34 (.fieldAddr 0) [.t 3], some (33, false)),
       (.load 35 none (some 3) (.t 34), some (33, false)),
       (.p 36 (.bin .gtr) [.t 35, .c (.pv (.int .i64 5))], some (33, false)),
       (.p 37 .pick [.t 33, .c (.pv (.bool true)), .t 36], none),
       (.p 38 .id [.t 37], none),
       (.p 39 (.fieldAddr 1) [.t 3], some (38, false)),
       (.load 40 none (some 3) (.t 39), some (38, false)),
       (.p 41 (.bin .lss) [.t 40, .c (.pv (.int .i64 0))], some (38, false)),
       (.p 42 .pick [.t 38, .c (.pv (.bool true)), .t 41], none),
       (.p 43 .id [.t 42], none),
       (.p 44 (.fieldAddr 1) [.t 3], some (43, false)),
       (.load 45 none (some 3) (.t 44), some (43, false)),
       (.p 46 (.bin .gtr) [.t 45, .c (.pv (.int .i64 15))], some (43, false)),
       (.p 47 .pick [.t 43, .c (.pv (.bool true)), .t 46], none)]))
    (.cond (.t 47)
     (.seq (.kill [] [] (.region [
         (.p 4 .id [.c (.pv (.bool false))], none)]))
      .ret)
     .skip))
   (.seq (.seq (.kill [3] [3] (.region [
        (.p 48 (.fieldAddr 0) [.t 3], none),
        (.load 49 none (some 3) (.t 48), none),
        (.p 50 (.bin .eql) [.t 49, .c (.pv (.int .i64 1))], none),
        (.p 51 .id [.t 50], none),
        (.p 52 (.fieldAddr 0) [.t 3], some (51, false)),
        (.load 53 none (some 3) (.t 52), some (51, false)),
        (.p 54 (.bin .eql) [.t 53, .c (.pv (.int .i64 5))], some (51, false)),
        (.p 55 .pick [.t 51, .c (.pv (.bool true)), .t 54], none),
        (.p 56 .id [.t 55], none),
        (.p 57 (.fieldAddr 2) [.t 3], some (56, true)),
        (.load 58 none (some 3) (.t 57), some (56, true)),
        (.p 59 (.bin .neq) [.t 58, .c (.pv (.int .i64 0))], some (56, true)),
        (.p 60 .pick [.t 56, .t 59, .c (.pv (.bool false))], none)]))
     (.cond (.t 60)
      (.seq (.kill [] [] (.region [
          (.p 4 .id [.c (.pv (.bool false))], none)]))
       .ret)
      .skip))
    (.seq (.kill [3] [3] (.region [
        (.p 61 (.fieldAddr 0) [.t 3], none),
        (.load 62 none (some 3) (.t 61), none),
        (.p 63 (.bin .eql) [.t 62, .c (.pv (.int .i64 4))], none),
        (.p 64 .id [.t 63], none),
        (.p 65 (.fieldAddr 3) [.t 3], some (64, false)),
        (.load 66 none (some 3) (.t 65), some (64, false)),
        (.p 67 (.bin .eql) [.t 66, .c (.pv (.int .i64 0))], some (64, false)),
        (.p 68 .pick [.t 64, .c (.pv (.bool true)), .t 67], none),
        (.p 4 .id [.t 68], none)]))
     .ret)))))
theorem okRef07Right : okFn Try.prog Try.f25 irRef07Right [.t 4] [] 2 = true := by kernel_rfl

-- kv.some
-- kv.some: args [2]; lent []; rs [.cell 2 (some (2, true))]; loops: 
def irKvSome : IR := (.seq (.region [
    (.alloc 2 (.pagg [.bool false, .int .i64 0]), none)])
 (.seq (.kill [0, 2] [2] (.region [
     (.p 3 .id [.t 0], none),
     (.build 4 (.pagg [.bool false, .int .i64 0]) [(0, 1, .c (.pv (.bool true))), (1, 1, .t 3)], none),
     (.store (some (2, true)) (some 2) (.t 2) (.t 4), none)]))
  .ret))
theorem okKvSome : okFn Try.prog Try.f69 irKvSome [.cell 2 (some (2, true))] [] 1 = true := by kernel_rfl

-- kv.one
-- kv.one: args [26, 50]; lent []; rs [.cell 4 (some (2, true)), .cell 5 (some (2, true))]; loops: 
def irKvOne : IR := (.seq (.region [
    (.box 2 (.t 0), none),
    (.box 3 (.t 1), none),
    (.alloc 4 (.pagg [.bool false, .int .i64 0]), none),
    (.alloc 5 (.pagg [.bool false, .int .i64 0]), none)])
 (.seq (.seq (.kill [2, 3, 4, 5] [2, 3, 4, 5] (.region [
      (.p 6 (.fieldAddr 0) [.t 2], none),
      (.load 7 none (some 2) (.t 6), none),
      (.p 8 (.un .not) [.t 7], none)]))
   (.cond (.t 8)
    (.kill [2, 3, 4, 5] [2, 3, 4, 5] (.region [
       (.p 9 (.fieldAddr 1) [.t 2], none),
       (.store none (some 2) (.t 9) (.c (.pv (.int .i64 0))), none)]))
    .skip))
  (.seq (.seq (.kill [2, 3, 4, 5] [2, 3, 4, 5] (.region [
       (.p 10 (.fieldAddr 0) [.t 3], none),
       (.load 11 none (some 3) (.t 10), none)]))
    (.block 0 (.seq (.kill [2, 3, 4, 5, 11] [2, 3, 4, 5] (.region [
         (.p 13 (.bin .eql) [.t 11, .c (.pv (.int .i64 1))], none),
         (.p 12 .id [.t 13], none)]))
      (.cond (.t 12)
       (.seq (.kill [2, 4, 5] [2, 4, 5] (.region [
           (.load 14 (some (2, true)) (some 2) (.t 2), none),
           (.p 15 (.fieldAddr 0) [.t 2], none),
           (.load 16 none (some 2) (.t 15), none),
           (.p 17 (.fieldAddr 1) [.t 2], none),
           (.load 18 none (some 2) (.t 17), none),
           (.build 19 (.pagg [.bool false, .int .i64 0]) [(0, 1, .t 16), (1, 1, .t 18)], none),
           (.store (some (2, true)) (some 4) (.t 4) (.t 14), none),
           (.store (some (2, true)) (some 5) (.t 5) (.t 19), none)]))
        .ret)
       (.seq (.kill [2, 3, 4, 5, 11] [2, 3, 4, 5] (.region [
           (.p 21 (.bin .eql) [.t 11, .c (.pv (.int .i64 2))], none),
           (.p 20 .id [.t 21], none)]))
        (.cond (.t 20)
         (.seq (.kill [2, 3, 4, 5] [2, 3, 4, 5] (.region [
             (.p 22 (.fieldAddr 2) [.t 3], none),
             (.load 23 none (some 3) (.t 22), none),
             (.call 24 69 [.t 23] [] [] [], none),
             (.p 25 (.fieldAddr 1) [.t 2], none),
             (.load 26 none (some 2) (.t 25), none),
             (.build 27 (.pagg [.bool false, .int .i64 0]) [(0, 1, .c (.pv (.bool true))), (1, 1, .t 26)], none),
             (.store (some (2, true)) (some 4) (.t 4) (.t 24), none),
             (.store (some (2, true)) (some 5) (.t 5) (.t 27), none)]))
          .ret)
         (.seq (.kill [2, 3, 4, 5, 11] [2, 3, 4, 5] (.region [
             (.p 29 (.bin .eql) [.t 11, .c (.pv (.int .i64 3))], none),
             (.p 28 .id [.t 29], none)]))
          (.cond (.t 28)
           (.seq (.kill [2, 3, 4, 5] [2, 3, 4, 5] (.region [
               (.p 30 (.fieldAddr 1) [.t 2], none),
               (.load 31 none (some 2) (.t 30), none),
               (.p 32 (.fieldAddr 2) [.t 3], none),
               (.load 33 none (some 3) (.t 32), none),
               (.p 34 (.bin .add) [.t 31, .t 33], none),
               (.call 35 69 [.t 34] [] [] [], none),
               (.store (some (2, true)) (some 2) (.t 2) (.t 35), none)]))
            (.seq (.kill [2, 4, 5] [2, 4, 5] (.region [
                (.load 36 (some (2, true)) (some 2) (.t 2), none),
                (.p 37 (.fieldAddr 1) [.t 2], none),
                (.load 38 none (some 2) (.t 37), none),
                (.build 39 (.pagg [.bool false, .int .i64 0]) [(0, 1, .c (.pv (.bool true))), (1, 1, .t 38)], none),
                (.store (some (2, true)) (some 4) (.t 4) (.t 36), none),
                (.store (some (2, true)) (some 5) (.t 5) (.t 39), none)]))
             .ret))
           (.seq (.kill [2, 3, 4, 5, 11] [2, 3, 4, 5] (.region [
               (.p 41 (.bin .eql) [.t 11, .c (.pv (.int .i64 4))], none),
               (.p 40 .id [.t 41], none)]))
            (.cond (.t 40)
             (.seq (.seq (.kill [2, 3, 4, 5] [2, 3, 4, 5] (.region [
                  (.p 42 (.fieldAddr 0) [.t 2], none),
                  (.load 43 none (some 2) (.t 42), none),
                  (.p 44 .id [.t 43], none),
                  (.p 45 (.fieldAddr 1) [.t 2], some (44, true)),
                  (.load 46 none (some 2) (.t 45), some (44, true)),
                  (.p 47 (.fieldAddr 2) [.t 3], some (44, true)),
                  (.load 48 none (some 3) (.t 47), some (44, true)),
                  (.p 49 (.bin .eql) [.t 46, .t 48], some (44, true)),
                  (.p 50 .pick [.t 44, .t 49, .c (.pv (.bool false))], none)]))
               (.cond (.t 50)
                (.seq (.kill [3, 4, 5] [3, 4, 5] (.region [
                    (.p 51 (.fieldAddr 3) [.t 3], none),
                    (.load 52 none (some 3) (.t 51), none),
                    (.call 53 69 [.t 52] [] [] [], none),
                    (.p 54 (.fieldAddr 3) [.t 3], none),
                    (.load 55 none (some 3) (.t 54), none),
                    (.build 56 (.pagg [.bool false, .int .i64 0]) [(0, 1, .c (.pv (.bool true))), (1, 1, .t 55)], none),
                    (.store (some (2, true)) (some 4) (.t 4) (.t 53), none),
                    (.store (some (2, true)) (some 5) (.t 5) (.t 56), none)]))
                 .ret)
                .skip))
              (.seq (.kill [2, 4, 5] [2, 4, 5] (.region [
                  (.load 57 (some (2, true)) (some 2) (.t 2), none),
                  (.p 58 (.fieldAddr 1) [.t 2], none),
                  (.load 59 none (some 2) (.t 58), none),
                  (.build 60 (.pagg [.bool false, .int .i64 0]) [(1, 1, .t 59)], none),
                  (.store (some (2, true)) (some 4) (.t 4) (.t 57), none),
                  (.store (some (2, true)) (some 5) (.t 5) (.t 60), none)]))
               .ret))
             (.seq (.kill [2, 4, 5, 11] [2, 4, 5] (.region [
                 (.p 62 (.bin .eql) [.t 11, .c (.pv (.int .i64 5))], none),
                 (.p 61 .id [.t 62], none)]))
              (.cond (.t 61)
               (.seq (.kill [2, 4, 5] [2, 4, 5] (.region [
                   (.build 63 (.pagg [.bool false, .int .i64 0]) [], none),
                   (.p 64 (.fieldAddr 0) [.t 2], none),
                   (.load 65 none (some 2) (.t 64), none),
                   (.p 66 (.fieldAddr 1) [.t 2], none),
                   (.load 67 none (some 2) (.t 66), none),
                   (.build 68 (.pagg [.bool false, .int .i64 0]) [(0, 1, .t 65), (1, 1, .t 67)], none),
                   (.store (some (2, true)) (some 4) (.t 4) (.t 63), none),
                   (.store (some (2, true)) (some 5) (.t 5) (.t 68), none)]))
                .ret)
               .skip))))))))))))
   (.seq (.kill [2, 4, 5] [2, 4, 5] (.region [
       (.load 69 (some (2, true)) (some 2) (.t 2), none),
       (.build 70 (.pagg [.bool false, .int .i64 0]) [], none),
       (.store (some (2, true)) (some 4) (.t 4) (.t 69), none),
       (.store (some (2, true)) (some 5) (.t 5) (.t 70), none)]))
    .ret))))
theorem okKvOne : okFn Try.prog Try.f51 irKvOne [.cell 4 (some (2, true)), .cell 5 (some (2, true))] [] 2 = true := by kernel_rfl

-- kv.Do
-- kv.Do: args [27, 50]; lent []; rs [.cell 4 (some (32, true)), .cell 5 (some (2, true))]; loops: 
def irKvDo : IR := (.seq (.region [
    (.box 2 (.t 0), none),
    (.box 3 (.t 1), none),
    (.alloc 4 (.pagg [.bool false, .int .i64 0, .bool false, .int .i64 0, .bool false, .int .i64 0, .bool false, .int .i64 0, .bool false, .int .i64 0, .bool false, .int .i64 0, .bool false, .int .i64 0, .bool false, .int .i64 0, .bool false, .int .i64 0, .bool false, .int .i64 0, .bool false, .int .i64 0, .bool false, .int .i64 0, .bool false, .int .i64 0, .bool false, .int .i64 0, .bool false, .int .i64 0, .bool false, .int .i64 0]), none),
    (.alloc 5 (.pagg [.bool false, .int .i64 0]), none)])
 (.seq (.seq (.kill [2, 3, 4, 5] [2, 3, 4, 5] (.region [
      (.p 8 (.fieldAddr 1) [.t 3], none),
      (.load 9 none (some 3) (.t 8), none),
      (.p 10 (.bin .lss) [.t 9, .c (.pv (.int .i64 0))], none),
      (.p 11 .id [.t 10], none),
      (.p 12 (.fieldAddr 1) [.t 3], some (11, false)),
      (.load 13 none (some 3) (.t 12), some (11, false)),
      (.p 14 (.bin .geq) [.t 13, .c (.pv (.int .i64 16))], some (11, false)),
      (.p 15 .pick [.t 11, .c (.pv (.bool true)), .t 14], none),
      (.p 16 .id [.t 15], none),
      (.p 17 (.fieldAddr 0) [.t 3], some (16, false)),
      (.load 18 none (some 3) (.t 17), some (16, false)),
      (.p 19 (.bin .lss) [.t 18, .c (.pv (.int .i64 1))], some (16, false)),
      (.p 20 .pick [.t 16, .c (.pv (.bool true)), .t 19], none),
      (.p 21 .id [.t 20], none),
      (.p 22 (.fieldAddr 0) [.t 3], some (21, false)),
      (.load 23 none (some 3) (.t 22), some (21, false)),
      (.p 24 (.bin .gtr) [.t 23, .c (.pv (.int .i64 5))], some (21, false)),
      (.p 25 .pick [.t 21, .c (.pv (.bool true)), .t 24], none)]))
   (.cond (.t 25)
    (.seq (.kill [2, 4, 5] [2, 4, 5] (.region [
        (.load 26 (some (32, true)) (some 2) (.t 2), none),
        (.build 27 (.pagg [.bool false, .int .i64 0]) [], none),
        (.store (some (32, true)) (some 4) (.t 4) (.t 26), none),
        (.store (some (2, true)) (some 5) (.t 5) (.t 27), none)]))
     .ret)
    .skip))
  (.seq (.kill [2, 3, 4, 5] [2, 3, 4, 5] (.region [
      (.p 29 (.fieldAddr 1) [.t 3], none),
      (.load 30 none (some 3) (.t 29), none),
      (.p 31 (.indexAddr (some 16) 2) [.t 2, .t 30], none),
      (.load 32 (some (2, false)) (some 2) (.t 31), none),
      (.load 33 (some (4, true)) (some 3) (.t 3), none),
      (.call 34 51 [.t 32, .t 33] [] [] [], none),
      (.p 28 .id [.t 34], none),
      (.p 35 (.ext 0) [.t 28], none),
      (.p 36 (.ext 1) [.t 28], none),
      (.alloc 6 (.pagg [.bool false, .int .i64 0]), none),
      (.alloc 7 (.pagg [.bool false, .int .i64 0]), none),
      (.store (some (2, true)) (some 6) (.t 6) (.t 35), none),
      (.store (some (2, true)) (some 7) (.t 7) (.t 36), none)]))
   (.seq (.seq (.kill [2, 3, 4, 5, 6, 7] [2, 3, 4, 5, 6, 7] (.region [
        (.p 37 (.fieldAddr 0) [.t 3], none),
        (.load 38 none (some 3) (.t 37), none),
        (.p 39 (.bin .neq) [.t 38, .c (.pv (.int .i64 1))], none),
        (.p 40 .id [.t 39], none),
        (.p 41 (.fieldAddr 0) [.t 3], some (40, true)),
        (.load 42 none (some 3) (.t 41), some (40, true)),
        (.p 43 (.bin .neq) [.t 42, .c (.pv (.int .i64 4))], some (40, true)),
        (.p 44 .id [.t 43], some (40, true)),
        (.p 45 (.fieldAddr 0) [.t 7], some (44, false)),
        (.load 46 none (some 7) (.t 45), some (44, false)),
        (.p 47 .pick [.t 44, .c (.pv (.bool true)), .t 46], some (40, true)),
        (.p 48 .pick [.t 40, .t 47, .c (.pv (.bool false))], none)]))
     (.cond (.t 48)
      (.kill [2, 3, 4, 5, 6, 7] [2, 3, 4, 5, 6, 7] (.region [
         (.p 49 (.fieldAddr 1) [.t 3], none),
         (.load 50 none (some 3) (.t 49), none),
         (.load 51 (some (2, true)) (some 6) (.t 6), none),
         (.p 52 (.indexAddr (some 16) 2) [.t 2, .t 50], none),
         (.store (some (2, false)) (some 2) (.t 52) (.t 51), none)]))
      .skip))
    (.seq (.kill [2, 4, 5, 7] [2, 4, 5, 7] (.region [
        (.load 53 (some (32, true)) (some 2) (.t 2), none),
        (.load 54 (some (2, true)) (some 7) (.t 7), none),
        (.store (some (32, true)) (some 4) (.t 4) (.t 53), none),
        (.store (some (2, true)) (some 5) (.t 5) (.t 54), none)]))
     .ret)))))
theorem okKvDo : okFn Try.prog Try.f24 irKvDo [.cell 4 (some (32, true)), .cell 5 (some (2, true))] [] 2 = true := by kernel_rfl

-- consistoryref14.Do
-- consistoryref14.Do: args [27, 50]; lent []; rs [.cell 4 (some (32, true)), .cell 5 (some (2, true))]; loops: 
def irRef14Do : IR := (.seq (.region [
    (.box 2 (.t 0), none),
    (.box 3 (.t 1), none),
    (.alloc 4 (.pagg [.bool false, .int .i64 0, .bool false, .int .i64 0, .bool false, .int .i64 0, .bool false, .int .i64 0, .bool false, .int .i64 0, .bool false, .int .i64 0, .bool false, .int .i64 0, .bool false, .int .i64 0, .bool false, .int .i64 0, .bool false, .int .i64 0, .bool false, .int .i64 0, .bool false, .int .i64 0, .bool false, .int .i64 0, .bool false, .int .i64 0, .bool false, .int .i64 0, .bool false, .int .i64 0]), none),
    (.alloc 5 (.pagg [.bool false, .int .i64 0]), none)])
 (.seq (.seq (.kill [2, 3, 4, 5] [2, 3, 4, 5] (.region [
      (.p 9 (.fieldAddr 1) [.t 3], none),
      (.load 10 none (some 3) (.t 9), none),
      (.p 11 (.bin .lss) [.t 10, .c (.pv (.int .i64 0))], none),
      (.p 12 .id [.t 11], none),
      (.p 13 (.fieldAddr 1) [.t 3], some (12, false)),
      (.load 14 none (some 3) (.t 13), some (12, false)),
      (.p 15 (.bin .gtr) [.t 14, .c (.pv (.int .i64 15))], some (12, false)),
      (.p 16 .pick [.t 12, .c (.pv (.bool true)), .t 15], none),
      (.p 17 .id [.t 16], none),
      (.p 18 (.fieldAddr 0) [.t 3], some (17, false)),
      (.load 19 none (some 3) (.t 18), some (17, false)),
      (.p 20 (.bin .lss) [.t 19, .c (.pv (.int .i64 1))], some (17, false)),
      (.p 21 .pick [.t 17, .c (.pv (.bool true)), .t 20], none),
      (.p 22 .id [.t 21], none),
      (.p 23 (.fieldAddr 0) [.t 3], some (22, false)),
      (.load 24 none (some 3) (.t 23), some (22, false)),
      (.p 25 (.bin .gtr) [.t 24, .c (.pv (.int .i64 5))], some (22, false)),
      (.p 26 .pick [.t 22, .c (.pv (.bool true)), .t 25], none)]))
   (.cond (.t 26)
    (.seq (.kill [2, 4, 5] [2, 4, 5] (.region [
        (.load 27 (some (32, true)) (some 2) (.t 2), none),
        (.build 28 (.pagg [.bool false, .int .i64 0]) [], none),
        (.store (some (32, true)) (some 4) (.t 4) (.t 27), none),
        (.store (some (2, true)) (some 5) (.t 5) (.t 28), none)]))
     .ret)
    .skip))
  (.seq (.kill [2, 3, 4, 5] [2, 3, 4, 5] (.region [
      (.p 29 (.fieldAddr 1) [.t 3], none),
      (.load 30 none (some 3) (.t 29), none),
      (.p 31 (.indexAddr (some 16) 2) [.t 2, .t 30], none),
      (.p 32 (.fieldAddr 0) [.t 31], none),
      (.load 33 none (some 2) (.t 32), none),
      (.p 6 .id [.t 33], none)]))
   (.seq (.kill [2, 3, 4, 5, 6] [2, 3, 4, 5] (.region [
       (.p 7 .id [.c (.pv (.int .i64 0))], none)]))
    (.seq (.seq (.kill [2, 3, 4, 5, 6, 7] [2, 3, 4, 5] (.region [
         (.p 34 .id [.t 6], none)]))
      (.cond (.t 34)
       (.kill [2, 3, 4, 5, 6] [2, 3, 4, 5] (.region [
          (.p 35 (.fieldAddr 1) [.t 3], none),
          (.load 36 none (some 3) (.t 35), none),
          (.p 37 (.indexAddr (some 16) 2) [.t 2, .t 36], none),
          (.p 38 (.fieldAddr 1) [.t 37], none),
          (.load 39 none (some 2) (.t 38), none),
          (.p 7 .id [.t 39], none)]))
       .skip))
     (.seq (.kill [2, 3, 4, 5, 6, 7] [2, 3, 4, 5] (.region [
         (.p 40 .id [.t 7], none),
         (.build 41 (.pagg [.bool false, .int .i64 0]) [(0, 1, .c (.pv (.bool true))), (1, 1, .t 40)], none),
         (.alloc 8 (.pagg [.bool false, .int .i64 0]), none),
         (.store (some (2, true)) (some 8) (.t 8) (.t 41), none)]))
      (.seq (.seq (.kill [2, 3, 4, 5, 6, 7, 8] [2, 3, 4, 5, 8] (.region [
           (.p 42 (.fieldAddr 0) [.t 3], none),
           (.load 43 none (some 3) (.t 42), none)]))
        (.block 0 (.seq (.kill [2, 3, 4, 5, 6, 7, 8, 43] [2, 3, 4, 5, 8] (.region [
             (.p 51 (.bin .eql) [.t 43, .c (.pv (.int .i64 1))], none),
             (.p 50 .id [.t 51], none)]))
          (.cond (.t 50)
           (.kill [2, 4, 5, 6, 8] [2, 4, 5, 8] (.region [
              (.p 52 .id [.t 6], none),
              (.p 53 (.fieldAddr 0) [.t 8], none),
              (.store none (some 8) (.t 53) (.t 52), none)]))
           (.seq (.kill [2, 3, 4, 5, 6, 7, 8, 43] [2, 3, 4, 5, 8] (.region [
               (.p 55 (.bin .eql) [.t 43, .c (.pv (.int .i64 2))], none),
               (.p 54 .id [.t 55], none)]))
            (.cond (.t 54)
             (.kill [2, 3, 4, 5, 8] [2, 3, 4, 5, 8] (.region [
                (.p 56 (.fieldAddr 1) [.t 3], none),
                (.load 57 none (some 3) (.t 56), none),
                (.p 58 (.fieldAddr 2) [.t 3], none),
                (.load 59 none (some 3) (.t 58), none),
                (.build 60 (.pagg [.bool false, .int .i64 0]) [(0, 1, .c (.pv (.bool true))), (1, 1, .t 59)], none),
                (.p 61 (.indexAddr (some 16) 2) [.t 2, .t 57], none),
                (.store (some (2, false)) (some 2) (.t 61) (.t 60), none)]))
             (.seq (.kill [2, 3, 4, 5, 6, 7, 8, 43] [2, 3, 4, 5, 8] (.region [
                 (.p 63 (.bin .eql) [.t 43, .c (.pv (.int .i64 3))], none),
                 (.p 62 .id [.t 63], none)]))
              (.cond (.t 62)
               (.seq (.kill [2, 3, 4, 5, 7, 8] [2, 3, 4, 5, 8] (.region [
                   (.p 64 .id [.t 7], none),
                   (.p 65 (.fieldAddr 2) [.t 3], none),
                   (.load 66 none (some 3) (.t 65), none),
                   (.p 67 (.bin .add) [.t 64, .t 66], none),
                   (.p 68 (.fieldAddr 1) [.t 8], none),
                   (.store none (some 8) (.t 68) (.t 67), none)]))
                (.kill [2, 3, 4, 5, 7, 8] [2, 3, 4, 5, 8] (.region [
                   (.p 69 (.fieldAddr 1) [.t 3], none),
                   (.load 70 none (some 3) (.t 69), none),
                   (.p 71 .id [.t 7], none),
                   (.p 72 (.fieldAddr 2) [.t 3], none),
                   (.load 73 none (some 3) (.t 72), none),
                   (.p 74 (.bin .add) [.t 71, .t 73], none),
                   (.build 75 (.pagg [.bool false, .int .i64 0]) [(0, 1, .c (.pv (.bool true))), (1, 1, .t 74)], none),
                   (.p 76 (.indexAddr (some 16) 2) [.t 2, .t 70], none),
                   (.store (some (2, false)) (some 2) (.t 76) (.t 75), none)])))
               (.seq (.kill [2, 3, 4, 5, 6, 7, 8, 43] [2, 3, 4, 5, 8] (.region [
                   (.p 78 (.bin .eql) [.t 43, .c (.pv (.int .i64 4))], none),
                   (.p 77 .id [.t 78], none)]))
                (.cond (.t 77)
                 (.seq (.kill [2, 3, 4, 5, 6, 7, 8] [2, 3, 4, 5, 8] (.region [
                     (.p 79 .id [.t 6], none),
                     (.p 80 .id [.t 79], none),
                     (.p 81 .id [.t 7], some (80, true)),
                     (.p 82 (.fieldAddr 2) [.t 3], some (80, true)),
                     (.load 83 none (some 3) (.t 82), some (80, true)),
                     (.p 84 (.bin .eql) [.t 81, .t 83], some (80, true)),
                     (.p 85 .pick [.t 80, .t 84, .c (.pv (.bool false))], none),
                     (.p 86 (.fieldAddr 0) [.t 8], none),
                     (.store none (some 8) (.t 86) (.t 85), none)]))
                  (.seq (.kill [2, 3, 4, 5, 8] [2, 3, 4, 5, 8] (.region [
                      (.p 87 (.fieldAddr 0) [.t 8], none),
                      (.load 88 none (some 8) (.t 87), none)]))
                   (.cond (.t 88)
                    (.seq (.kill [2, 3, 4, 5, 8] [2, 3, 4, 5, 8] (.region [
                        (.p 89 (.fieldAddr 3) [.t 3], none),
                        (.load 90 none (some 3) (.t 89), none),
                        (.p 91 (.fieldAddr 1) [.t 8], none),
                        (.store none (some 8) (.t 91) (.t 90), none)]))
                     (.kill [2, 3, 4, 5, 8] [2, 3, 4, 5, 8] (.region [
                        (.p 92 (.fieldAddr 1) [.t 3], none),
                        (.load 93 none (some 3) (.t 92), none),
                        (.p 94 (.fieldAddr 3) [.t 3], none),
                        (.load 95 none (some 3) (.t 94), none),
                        (.build 96 (.pagg [.bool false, .int .i64 0]) [(0, 1, .c (.pv (.bool true))), (1, 1, .t 95)], none),
                        (.p 97 (.indexAddr (some 16) 2) [.t 2, .t 93], none),
                        (.store (some (2, false)) (some 2) (.t 97) (.t 96), none)])))
                    .skip)))
                 (.seq (.kill [2, 3, 4, 5, 6, 8] [2, 3, 4, 5, 8] (.region [
                     (.p 44 .id [.t 6], none),
                     (.p 45 (.fieldAddr 0) [.t 8], none),
                     (.store none (some 8) (.t 45) (.t 44), none)]))
                  (.kill [2, 3, 4, 5, 8] [2, 3, 4, 5, 8] (.region [
                     (.p 46 (.fieldAddr 1) [.t 3], none),
                     (.load 47 none (some 3) (.t 46), none),
                     (.build 48 (.pagg [.bool false, .int .i64 0]) [], none),
                     (.p 49 (.indexAddr (some 16) 2) [.t 2, .t 47], none),
                     (.store (some (2, false)) (some 2) (.t 49) (.t 48), none)])))))))))))))
       (.seq (.kill [2, 4, 5, 8] [2, 4, 5, 8] (.region [
           (.load 98 (some (32, true)) (some 2) (.t 2), none),
           (.load 99 (some (2, true)) (some 8) (.t 8), none),
           (.store (some (32, true)) (some 4) (.t 4) (.t 98), none),
           (.store (some (2, true)) (some 5) (.t 5) (.t 99), none)]))
        .ret))))))))
theorem okRef14Do : okFn Try.prog Try.f27 irRef14Do [.cell 4 (some (32, true)), .cell 5 (some (2, true))] [] 2 = true := by kernel_rfl

-- execs.First
-- execs.First: args [24]; lent []; rs [.cell 2 (some (68, true))]; loops: L1 keeps [2, 3, 8] [2, 3]
def irExecsFirst_L1 : IR := (.seq (.kill [2, 3, 8] [2, 3] (.region [
     (.p 9 (.bin .lss) [.t 8, .c (.pv (.int .i64 6))], none)]))
  (.seq (.cond (.t 9)
    .skip
    (.exit 0))
   (.seq (.block 1 (.seq (.kill [2, 3, 8] [2, 3] (.region [
         (.p 10 .id [.t 8], none),
         (.p 4 .id [.t 10], none)]))
      (.kill [2, 3, 4, 8] [2, 3] (.region [
         (.p 11 .id [.t 4], none),
         (.p 12 .id [.t 4], none),
         (.p 13 (.fieldAddr 38) [.t 3], none),
         (.p 14 (.indexAddr (some 6) 5) [.t 13, .t 11], none),
         (.p 15 (.fieldAddr 0) [.t 14], none),
         (.store none (some 3) (.t 15) (.t 12), none)]))))
    (.kill [2, 3, 8] [2, 3] (.region [
       (.p 16 (.bin .add) [.t 8, .c (.pv (.int .i64 1))], none),
       (.p 8 .id [.t 16], none)])))))
def irExecsFirst : IR := (.seq (.region [
    (.box 1 (.t 0), none),
    (.alloc 2 (.pagg [.int .i64 0, .int .i64 0, .int .i64 0, .int .u16 0, .int .i64 0, .int .u16 0, .bool false, .int .i64 0, .bool false, .int .i64 0, .bool false, .int .i64 0, .bool false, .int .i64 0, .bool false, .int .i64 0, .bool false, .int .i64 0, .bool false, .int .i64 0, .bool false, .int .i64 0, .bool false, .int .i64 0, .bool false, .int .i64 0, .bool false, .int .i64 0, .bool false, .int .i64 0, .bool false, .int .i64 0, .bool false, .int .i64 0, .bool false, .int .i64 0, .bool false, .int .i64 0, .int .i64 0, .int .i64 0, .int .i64 0, .bool false, .int .i64 0, .int .i64 0, .int .i64 0, .int .i64 0, .bool false, .int .i64 0, .int .i64 0, .int .i64 0, .int .i64 0, .bool false, .int .i64 0, .int .i64 0, .int .i64 0, .int .i64 0, .bool false, .int .i64 0, .int .i64 0, .int .i64 0, .int .i64 0, .bool false, .int .i64 0, .int .i64 0, .int .i64 0, .int .i64 0, .bool false, .int .i64 0]), none)])
 (.seq (.kill [1, 2] [1, 2] (.region [
     (.load 5 (some (2, true)) (some 1) (.t 1), none),
     (.load 6 (some (2, true)) (some 1) (.t 1), none),
     (.build 7 (.pagg [.int .i64 0, .int .i64 0, .int .i64 0, .int .u16 0, .int .i64 0, .int .u16 0, .bool false, .int .i64 0, .bool false, .int .i64 0, .bool false, .int .i64 0, .bool false, .int .i64 0, .bool false, .int .i64 0, .bool false, .int .i64 0, .bool false, .int .i64 0, .bool false, .int .i64 0, .bool false, .int .i64 0, .bool false, .int .i64 0, .bool false, .int .i64 0, .bool false, .int .i64 0, .bool false, .int .i64 0, .bool false, .int .i64 0, .bool false, .int .i64 0, .bool false, .int .i64 0, .int .i64 0, .int .i64 0, .int .i64 0, .bool false, .int .i64 0, .int .i64 0, .int .i64 0, .int .i64 0, .bool false, .int .i64 0, .int .i64 0, .int .i64 0, .int .i64 0, .bool false, .int .i64 0, .int .i64 0, .int .i64 0, .int .i64 0, .bool false, .int .i64 0, .int .i64 0, .int .i64 0, .int .i64 0, .bool false, .int .i64 0, .int .i64 0, .int .i64 0, .int .i64 0, .bool false, .int .i64 0]) [(1, 1, .c (.pv (.int .i64 1))), (2, 2, .t 5), (4, 2, .t 6)], none),
     (.alloc 3 (.pagg [.int .i64 0, .int .i64 0, .int .i64 0, .int .u16 0, .int .i64 0, .int .u16 0, .bool false, .int .i64 0, .bool false, .int .i64 0, .bool false, .int .i64 0, .bool false, .int .i64 0, .bool false, .int .i64 0, .bool false, .int .i64 0, .bool false, .int .i64 0, .bool false, .int .i64 0, .bool false, .int .i64 0, .bool false, .int .i64 0, .bool false, .int .i64 0, .bool false, .int .i64 0, .bool false, .int .i64 0, .bool false, .int .i64 0, .bool false, .int .i64 0, .bool false, .int .i64 0, .int .i64 0, .int .i64 0, .int .i64 0, .bool false, .int .i64 0, .int .i64 0, .int .i64 0, .int .i64 0, .bool false, .int .i64 0, .int .i64 0, .int .i64 0, .int .i64 0, .bool false, .int .i64 0, .int .i64 0, .int .i64 0, .int .i64 0, .bool false, .int .i64 0, .int .i64 0, .int .i64 0, .int .i64 0, .bool false, .int .i64 0, .int .i64 0, .int .i64 0, .int .i64 0, .bool false, .int .i64 0]), none),
     (.store (some (68, true)) (some 3) (.t 3) (.t 7), none)]))
  (.seq (.seq (.kill [2, 3] [2, 3] (.region [
       (.p 8 .id [.c (.pv (.int .i64 0))], none)]))
    (.block 0 (.loop (.kill [2, 3, 8] [2, 3] irExecsFirst_L1))))
   (.seq (.kill [2, 3] [2, 3] (.region [
       (.load 17 (some (68, true)) (some 3) (.t 3), none),
       (.store (some (68, true)) (some 2) (.t 2) (.t 17), none)]))
    .ret))))
theorem okExecsFirst : okFn Try.prog Try.f14 irExecsFirst [.cell 2 (some (68, true))] [] 1 = true := by kernel_rfl

-- execs.known
-- execs.known: args [53]; lent []; rs [.t 2]; loops: 
def irExecsKnown : IR := (.seq (.region [
    (.box 1 (.t 0), none),
    (.p 2 .id [.c (.pv (.bool false))], none)])
 (.seq (.kill [1] [1] (.region [
     (.p 3 (.fieldAddr 0) [.t 1], none),
     (.load 4 none (some 1) (.t 3), none),
     (.p 5 (.bin .geq) [.t 4, .c (.pv (.int .i64 0))], none),
     (.p 6 .id [.t 5], none),
     (.p 7 (.fieldAddr 0) [.t 1], some (6, true)),
     (.load 8 none (some 1) (.t 7), some (6, true)),
     (.p 9 (.bin .lss) [.t 8, .c (.pv (.int .i64 6))], some (6, true)),
     (.p 10 .pick [.t 6, .t 9, .c (.pv (.bool false))], none),
     (.p 11 .id [.t 10], none),
     (.p 12 (.fieldAddr 0) [.t 1], some (11, true)),
     (.load 13 none (some 1) (.t 12), some (11, true)),
     (.p 14 (.fieldAddr 2) [.t 1], some (11, true)),
     (.load 15 (some (4, false)) (some 1) (.t 14), some (11, true)),
     (.call 16 49 [.t 13, .t 15] [] [] [], some (11, true)),
     (.p 17 .pick [.t 11, .t 16, .c (.pv (.bool false))], none),
     (.p 2 .id [.t 17], none)]))
  .ret))
theorem okExecsKnown : okFn Try.prog Try.f22 irExecsKnown [.t 2] [] 1 = true := by kernel_rfl

-- execs.Do
-- execs.Do: args [34, 42]; lent []; rs [.cell 4 (some (68, true)), .t 5]; loops: L1 keeps [2, 4, 6, 7, 23, 24, 25] [2, 4, 6]
def irExecsDo_L1 : IR := (.seq (.kill [2, 4, 6, 7, 23, 24, 25] [2, 4, 6] (.region [
     (.p 26 (.bin .lss) [.t 25, .t 24], none)]))
  (.seq (.cond (.t 26)
    .skip
    (.exit 0))
   (.seq (.block 1 (.seq (.kill [2, 4, 6, 7, 23, 24, 25] [2, 4, 6] (.region [
         (.p 27 (.indexAddr none 7) [.t 23, .t 25], none),
         (.load 28 (some (7, true)) (some 9999) (.t 27), none),
         (.alloc 9 (.agg [.pv (.int .i64 0), .pv (.int .i64 0), .pv (.int .i64 0), .pv (.int .i64 0), .pv (.int .i64 0), .pv (.int .i64 0), .os 5 1 []]), none),
         (.store (some (7, true)) (some 9) (.t 9) (.t 28), none)]))
      (.seq (.seq (.kill [2, 4, 6, 7, 9, 23, 24, 25] [2, 4, 6, 9] (.region [
           (.load 29 (some (7, true)) (some 9) (.t 9), none),
           (.call 30 22 [.t 29] [] [] [], none),
           (.p 31 (.un .not) [.t 30], none),
           (.p 32 .id [.t 31], none),
           (.p 33 (.fieldAddr 1) [.t 9], some (32, false)),
           (.load 34 none (some 9) (.t 33), some (32, false)),
           (.p 35 (.fieldAddr 0) [.t 9], some (32, false)),
           (.load 36 none (some 9) (.t 35), some (32, false)),
           (.p 37 (.fieldAddr 38) [.t 2], some (32, false)),
           (.p 38 (.indexAddr (some 6) 5) [.t 37, .t 36], some (32, false)),
           (.p 39 (.fieldAddr 1) [.t 38], some (32, false)),
           (.load 40 none (some 2) (.t 39), some (32, false)),
           (.p 41 (.bin .leq) [.t 34, .t 40], some (32, false)),
           (.p 42 .pick [.t 32, .c (.pv (.bool true)), .t 41], none)]))
        (.cond (.t 42)
         (.exit 1)
         .skip))
       (.seq (.kill [2, 4, 6, 7, 9, 23, 24, 25] [2, 4, 6, 9] (.region [
           (.alloc 10 (.pagg [.bool false, .int .i64 0]), none)]))
        (.seq (.seq (.kill [2, 4, 6, 7, 9, 10, 23, 24, 25] [2, 4, 6, 9, 10] (.region [
             (.p 43 (.fieldAddr 2) [.t 9], none),
             (.p 44 (.fieldAddr 0) [.t 43], none),
             (.load 45 none (some 9) (.t 44), none),
             (.p 46 (.bin .eql) [.t 45, .c (.pv (.int .i64 6))], none)]))
          (.cond (.t 46)
           (.seq (.kill [2, 4, 6, 7, 9, 10, 23, 24, 25] [2, 4, 6, 9, 10] (.region [
               (.p 48 (.fieldAddr 2) [.t 2], none),
               (.load 49 (some (2, false)) (some 2) (.t 48), none),
               (.p 50 (.fieldAddr 2) [.t 9], none),
               (.p 51 (.fieldAddr 2) [.t 50], none),
               (.load 52 none (some 9) (.t 51), none),
               (.call 53 23 [.t 49, .t 52] [] [] [], none),
               (.p 47 .id [.t 53], none),
               (.p 54 (.ext 0) [.t 47], none),
               (.p 55 (.ext 1) [.t 47], none),
               (.alloc 11 (.pagg [.int .i64 0, .int .u16 0]), none),
               (.store (some (2, true)) (some 11) (.t 11) (.t 54), none),
               (.p 12 .id [.t 55], none)]))
            (.seq (.kill [2, 4, 6, 7, 9, 10, 11, 12, 23, 24, 25] [2, 4, 6, 9, 10, 11] (.region [
                (.p 56 .id [.t 12], none),
                (.p 57 (.bin .eql) [.t 56, .c (.pv (.int .i64 0))], none),
                (.p 58 .id [.t 57], none),
                (.load 59 (some (2, true)) (some 6) (.t 6), some (58, true)),
                (.p 60 (.fieldAddr 2) [.t 2], some (58, true)),
                (.load 61 (some (2, false)) (some 2) (.t 60), some (58, true)),
                (.p 62 (.seq false [.i .i64, .i .u16]) [.t 59, .t 61], some (58, true)),
                (.p 63 .pick [.t 58, .t 62, .c (.pv (.bool false))], none)]))
             (.cond (.t 63)
              (.seq (.kill [2, 4, 6, 7, 9, 10, 11, 23, 24, 25] [2, 4, 6, 9, 10, 11] (.region [
                  (.load 64 (some (2, true)) (some 11) (.t 11), none),
                  (.store (some (2, true)) (some 6) (.t 6) (.t 64), none)]))
               (.kill [2, 4, 6, 7, 9, 10, 11, 23, 24, 25] [2, 4, 6, 9, 10, 11] (.region [
                  (.p 65 (.fieldAddr 0) [.t 11], none),
                  (.load 66 none (some 11) (.t 65), none),
                  (.build 67 (.pagg [.bool false, .int .i64 0]) [(0, 1, .c (.pv (.bool true))), (1, 1, .t 66)], none),
                  (.store (some (2, true)) (some 10) (.t 10) (.t 67), none)])))
              .skip)))
           (.kill [2, 4, 6, 7, 9, 10, 23, 24, 25] [2, 4, 6, 9, 10] (.region [
              (.p 69 (.fieldAddr 6) [.t 2], none),
              (.load 70 (some (32, false)) (some 2) (.t 69), none),
              (.p 71 (.fieldAddr 2) [.t 9], none),
              (.load 72 (some (4, false)) (some 9) (.t 71), none),
              (.call 73 24 [.t 70, .t 72] [] [] [], none),
              (.p 68 .id [.t 73], none),
              (.p 74 (.ext 0) [.t 68], none),
              (.p 75 (.ext 1) [.t 68], none),
              (.p 76 (.fieldAddr 6) [.t 2], none),
              (.store (some (32, false)) (some 2) (.t 76) (.t 74), none),
              (.store (some (2, true)) (some 10) (.t 10) (.t 75), none)]))))
         (.seq (.kill [2, 4, 6, 7, 9, 10, 23, 24, 25] [2, 4, 6, 9, 10] (.region [
             (.p 77 (.fieldAddr 0) [.t 9], none),
             (.load 78 none (some 9) (.t 77), none),
             (.p 79 (.fieldAddr 1) [.t 9], none),
             (.load 80 none (some 9) (.t 79), none),
             (.p 81 (.fieldAddr 0) [.t 2], none),
             (.load 82 none (some 2) (.t 81), none),
             (.load 83 (some (2, true)) (some 10) (.t 10), none),
             (.build 84 (.pagg [.int .i64 0, .int .i64 0, .int .i64 0, .bool false, .int .i64 0]) [(0, 1, .t 78), (1, 1, .t 80), (2, 1, .t 82), (3, 2, .t 83)], none),
             (.alloc 13 (.pagg [.int .i64 0, .int .i64 0, .int .i64 0, .bool false, .int .i64 0]), none),
             (.store (some (5, true)) (some 13) (.t 13) (.t 84), none)]))
          (.seq (.kill [2, 4, 6, 7, 9, 13, 23, 24, 25] [2, 4, 6, 9, 13] (.region [
              (.p 85 (.fieldAddr 0) [.t 9], none),
              (.load 86 none (some 9) (.t 85), none),
              (.load 87 (some (5, true)) (some 13) (.t 13), none),
              (.p 88 (.fieldAddr 38) [.t 2], none),
              (.p 89 (.indexAddr (some 6) 5) [.t 88, .t 86], none),
              (.store (some (5, false)) (some 2) (.t 89) (.t 87), none)]))
           (.kill [2, 4, 6, 7, 13, 23, 24, 25] [2, 4, 6, 13] (.region [
              (.mv 90 7, none),
              (.load 91 (some (5, true)) (some 13) (.t 13), none),
              (.bslice 92 31 5 1 [.int .i64 0, .int .i64 0, .int .i64 0, .bool false, .int .i64 0] [(0, .t 91)], none),
              (.app 93 31 5 90 none (.t 92), none),
              (.mv 7 93, none)])))))))))
    (.kill [2, 4, 6, 7, 23, 24, 25] [2, 4, 6] (.region [
       (.p 94 (.bin .add) [.t 25, .c (.pv (.int .i64 1))], none),
       (.p 25 .id [.t 94], none)])))))
def irExecsDo : IR := (.seq (.region [
    (.box 2 (.t 0), none),
    (.alloc 4 (.pagg [.int .i64 0, .int .i64 0, .int .i64 0, .int .u16 0, .int .i64 0, .int .u16 0, .bool false, .int .i64 0, .bool false, .int .i64 0, .bool false, .int .i64 0, .bool false, .int .i64 0, .bool false, .int .i64 0, .bool false, .int .i64 0, .bool false, .int .i64 0, .bool false, .int .i64 0, .bool false, .int .i64 0, .bool false, .int .i64 0, .bool false, .int .i64 0, .bool false, .int .i64 0, .bool false, .int .i64 0, .bool false, .int .i64 0, .bool false, .int .i64 0, .bool false, .int .i64 0, .int .i64 0, .int .i64 0, .int .i64 0, .bool false, .int .i64 0, .int .i64 0, .int .i64 0, .int .i64 0, .bool false, .int .i64 0, .int .i64 0, .int .i64 0, .int .i64 0, .bool false, .int .i64 0, .int .i64 0, .int .i64 0, .int .i64 0, .bool false, .int .i64 0, .int .i64 0, .int .i64 0, .int .i64 0, .bool false, .int .i64 0, .int .i64 0, .int .i64 0, .int .i64 0, .bool false, .int .i64 0]), none),
    (.p 5 .id [.c (.os 31 5 [])], none)])
 (.seq (.kill [1, 2, 4] [2, 4] (.region [
     (.p 14 (.fieldAddr 2) [.t 2], none),
     (.load 15 (some (2, false)) (some 2) (.t 14), none),
     (.p 16 (.fieldAddr 4) [.t 2], none),
     (.store (some (2, false)) (some 2) (.t 16) (.t 15), none)]))
  (.seq (.kill [1, 2, 4] [2, 4] (.region [
      (.p 17 (.fieldAddr 0) [.t 2], none),
      (.load 18 none (some 2) (.t 17), none),
      (.p 19 (.bin .add) [.t 18, .c (.pv (.int .i64 1))], none),
      (.p 20 (.fieldAddr 0) [.t 2], none),
      (.store none (some 2) (.t 20) (.t 19), none)]))
   (.seq (.kill [1, 2, 4] [2, 4] (.region [
       (.p 21 (.fieldAddr 2) [.t 2], none),
       (.load 22 (some (2, false)) (some 2) (.t 21), none),
       (.alloc 6 (.pagg [.int .i64 0, .int .u16 0]), none),
       (.store (some (2, true)) (some 6) (.t 6) (.t 22), none)]))
    (.seq (.kill [1, 2, 4, 6] [2, 4, 6] (.region [
        (.p 7 .id [.c (.os 31 5 [])], none)]))
     (.seq (.seq (.kill [1, 2, 4, 6, 7] [2, 4, 6] (.region [
          (.mv 23 1, none),
          (.p 24 (.len none) [.t 23], none),
          (.p 25 .id [.c (.pv (.int .i64 0))], none)]))
       (.block 0 (.loop (.kill [2, 4, 6, 7, 23, 24, 25] [2, 4, 6] irExecsDo_L1))))
      (.seq (.seq (.kill [2, 4, 6, 7] [2, 4, 6] (.region [
           (.load 95 (some (2, true)) (some 6) (.t 6), none),
           (.p 96 (.fieldAddr 2) [.t 2], none),
           (.load 97 (some (2, false)) (some 2) (.t 96), none),
           (.p 98 (.seq true [.i .i64, .i .u16]) [.t 95, .t 97], none)]))
        (.cond (.t 98)
         (.kill [2, 4, 6, 7] [2, 4, 6] (.region [
            (.load 99 (some (2, true)) (some 6) (.t 6), none),
            (.p 100 (.fieldAddr 0) [.t 2], none),
            (.load 101 none (some 2) (.t 100), none),
            (.p 102 (.bin .add) [.t 101, .c (.pv (.int .i64 1))], none),
            (.p 103 (.fieldAddr 2) [.t 2], none),
            (.store (some (2, false)) (some 2) (.t 103) (.t 99), none),
            (.p 104 (.fieldAddr 1) [.t 2], none),
            (.store none (some 2) (.t 104) (.t 102), none)]))
         .skip))
       (.seq (.kill [2, 4, 7] [2, 4] (.region [
           (.load 105 (some (68, true)) (some 2) (.t 2), none),
           (.mv 106 7, none),
           (.store (some (68, true)) (some 4) (.t 4) (.t 105), none),
           (.mv 5 106, none)]))
        .ret))))))))
theorem okExecsDo : okFn Try.prog Try.f11 irExecsDo [.cell 4 (some (68, true)), .t 5] [] 2 = true := by kernel_rfl

-- consistoryref15.Do
-- consistoryref15.Do: args [34, 42]; lent []; rs [.cell 4 (some (69, true))]; loops: L1 keeps [1, 2, 4, 5, 6, 7] [2, 4, 5, 6]
def irRef15Do_L1 : IR := (.seq (.seq (.kill [1, 2, 4, 5, 6, 7] [2, 4, 5, 6] (.region [
      (.p 28 .id [.t 7], none),
      (.p 29 .id [.t 1], none),
      (.p 30 (.len none) [.t 29], none),
      (.p 31 (.bin .lss) [.t 28, .t 30], none)]))
   (.cond (.t 31)
    .skip
    (.exit 0)))
  (.seq (.block 1 (.seq (.kill [1, 2, 4, 5, 6, 7] [2, 4, 5, 6] (.region [
        (.p 34 .id [.t 1], none),
        (.p 35 .id [.t 7], none),
        (.p 36 (.indexAddr none 7) [.t 34, .t 35], none),
        (.load 37 (some (7, true)) (some 9999) (.t 36), none),
        (.alloc 8 (.agg [.pv (.int .i64 0), .pv (.int .i64 0), .pv (.int .i64 0), .pv (.int .i64 0), .pv (.int .i64 0), .pv (.int .i64 0), .os 5 1 []]), none),
        (.store (some (7, true)) (some 8) (.t 8) (.t 37), none)]))
     (.seq (.seq (.kill [1, 2, 4, 5, 6, 7, 8] [2, 4, 5, 6, 8] (.region [
          (.p 38 (.fieldAddr 0) [.t 8], none),
          (.load 39 none (some 8) (.t 38), none),
          (.p 40 (.bin .lss) [.t 39, .c (.pv (.int .i64 0))], none),
          (.p 41 .id [.t 40], none),
          (.p 42 (.fieldAddr 0) [.t 8], some (41, false)),
          (.load 43 none (some 8) (.t 42), some (41, false)),
          (.p 44 (.bin .gtr) [.t 43, .c (.pv (.int .i64 5))], some (41, false)),
          (.p 45 .pick [.t 41, .c (.pv (.bool true)), .t 44], none),
          (.p 46 .id [.t 45], none),
          (.p 47 (.fieldAddr 0) [.t 8], some (46, false)),
          (.load 48 none (some 8) (.t 47), some (46, false)),
          (.p 49 (.fieldAddr 2) [.t 8], some (46, false)),
          (.load 50 (some (4, false)) (some 8) (.t 49), some (46, false)),
          (.call 51 25 [.t 48, .t 50] [] [] [], some (46, false)),
          (.p 52 (.un .not) [.t 51], some (46, false)),
          (.p 53 .pick [.t 46, .c (.pv (.bool true)), .t 52], none)]))
       (.cond (.t 53)
        (.exit 1)
        .skip))
      (.seq (.seq (.kill [1, 2, 4, 5, 6, 7, 8] [2, 4, 5, 6, 8] (.region [
           (.p 54 (.fieldAddr 1) [.t 8], none),
           (.load 55 none (some 8) (.t 54), none),
           (.p 56 (.fieldAddr 0) [.t 8], none),
           (.load 57 none (some 8) (.t 56), none),
           (.p 58 (.fieldAddr 0) [.t 5], none),
           (.p 59 (.fieldAddr 38) [.t 58], none),
           (.p 60 (.indexAddr (some 6) 5) [.t 59, .t 57], none),
           (.p 61 (.fieldAddr 1) [.t 60], none),
           (.load 62 none (some 5) (.t 61), none),
           (.p 63 (.bin .leq) [.t 55, .t 62], none)]))
        (.cond (.t 63)
         (.exit 1)
         .skip))
       (.seq (.kill [1, 2, 4, 5, 6, 7, 8] [2, 4, 5, 6, 8] (.region [
           (.build 64 (.pagg [.bool false, .int .i64 0]) [], none),
           (.alloc 9 (.pagg [.bool false, .int .i64 0]), none),
           (.store (some (2, true)) (some 9) (.t 9) (.t 64), none)]))
        (.seq (.seq (.kill [1, 2, 4, 5, 6, 7, 8, 9] [2, 4, 5, 6, 8, 9] (.region [
             (.p 65 (.fieldAddr 2) [.t 8], none),
             (.p 66 (.fieldAddr 0) [.t 65], none),
             (.load 67 none (some 8) (.t 66), none),
             (.p 68 (.bin .eql) [.t 67, .c (.pv (.int .i64 6))], none)]))
          (.cond (.t 68)
           (.seq (.kill [1, 2, 4, 5, 6, 7, 8, 9] [2, 4, 5, 6, 8, 9] (.region [
               (.p 70 (.fieldAddr 2) [.t 2], none),
               (.load 71 (some (2, false)) (some 2) (.t 70), none),
               (.p 72 (.fieldAddr 2) [.t 8], none),
               (.p 73 (.fieldAddr 2) [.t 72], none),
               (.load 74 none (some 8) (.t 73), none),
               (.call 75 26 [.t 71, .t 74] [] [] [], none),
               (.p 69 .id [.t 75], none),
               (.p 76 (.ext 0) [.t 69], none),
               (.p 77 (.ext 1) [.t 69], none),
               (.alloc 10 (.pagg [.int .i64 0, .int .u16 0]), none),
               (.store (some (2, true)) (some 10) (.t 10) (.t 76), none),
               (.p 11 .id [.t 77], none)]))
            (.seq (.kill [1, 2, 4, 5, 6, 7, 8, 9, 10, 11] [2, 4, 5, 6, 8, 9, 10] (.region [
                (.p 78 .id [.t 11], none),
                (.p 79 (.bin .eql) [.t 78, .c (.pv (.int .i64 0))], none),
                (.p 80 .id [.t 79], none),
                (.load 81 (some (2, true)) (some 6) (.t 6), some (80, true)),
                (.p 82 (.fieldAddr 2) [.t 2], some (80, true)),
                (.load 83 (some (2, false)) (some 2) (.t 82), some (80, true)),
                (.p 84 (.seq false [.i .i64, .i .u16]) [.t 81, .t 83], some (80, true)),
                (.p 85 .pick [.t 80, .t 84, .c (.pv (.bool false))], none)]))
             (.cond (.t 85)
              (.seq (.kill [1, 2, 4, 5, 6, 7, 8, 9, 10] [2, 4, 5, 6, 8, 9, 10] (.region [
                  (.load 86 (some (2, true)) (some 10) (.t 10), none),
                  (.store (some (2, true)) (some 6) (.t 6) (.t 86), none)]))
               (.kill [1, 2, 4, 5, 6, 7, 8, 9, 10] [2, 4, 5, 6, 8, 9, 10] (.region [
                  (.p 87 (.fieldAddr 0) [.t 10], none),
                  (.load 88 none (some 10) (.t 87), none),
                  (.build 89 (.pagg [.bool false, .int .i64 0]) [(0, 1, .c (.pv (.bool true))), (1, 1, .t 88)], none),
                  (.store (some (2, true)) (some 9) (.t 9) (.t 89), none)])))
              .skip)))
           (.seq (.kill [1, 2, 4, 5, 6, 7, 8, 9] [2, 4, 5, 6, 8, 9] (.region [
               (.p 91 (.fieldAddr 0) [.t 5], none),
               (.p 92 (.fieldAddr 6) [.t 91], none),
               (.load 93 (some (32, false)) (some 5) (.t 92), none),
               (.p 94 (.fieldAddr 2) [.t 8], none),
               (.load 95 (some (4, false)) (some 8) (.t 94), none),
               (.call 96 27 [.t 93, .t 95] [] [] [], none),
               (.p 90 .id [.t 96], none),
               (.p 97 (.ext 0) [.t 90], none),
               (.p 98 (.ext 1) [.t 90], none),
               (.alloc 12 (.pagg [.bool false, .int .i64 0, .bool false, .int .i64 0, .bool false, .int .i64 0, .bool false, .int .i64 0, .bool false, .int .i64 0, .bool false, .int .i64 0, .bool false, .int .i64 0, .bool false, .int .i64 0, .bool false, .int .i64 0, .bool false, .int .i64 0, .bool false, .int .i64 0, .bool false, .int .i64 0, .bool false, .int .i64 0, .bool false, .int .i64 0, .bool false, .int .i64 0, .bool false, .int .i64 0]), none),
               (.alloc 13 (.pagg [.bool false, .int .i64 0]), none),
               (.store (some (32, true)) (some 12) (.t 12) (.t 97), none),
               (.store (some (2, true)) (some 13) (.t 13) (.t 98), none)]))
            (.seq (.kill [1, 2, 4, 5, 6, 7, 8, 9, 12, 13] [2, 4, 5, 6, 8, 9, 12, 13] (.region [
                (.load 99 (some (32, true)) (some 12) (.t 12), none),
                (.p 100 (.fieldAddr 0) [.t 5], none),
                (.p 101 (.fieldAddr 6) [.t 100], none),
                (.store (some (32, false)) (some 5) (.t 101) (.t 99), none)]))
             (.kill [1, 2, 4, 5, 6, 7, 8, 9, 13] [2, 4, 5, 6, 8, 9, 13] (.region [
                (.load 102 (some (2, true)) (some 13) (.t 13), none),
                (.store (some (2, true)) (some 9) (.t 9) (.t 102), none)]))))))
         (.seq (.kill [1, 2, 4, 5, 6, 7, 8, 9] [2, 4, 5, 6, 8, 9] (.region [
             (.p 103 (.fieldAddr 0) [.t 8], none),
             (.load 104 none (some 8) (.t 103), none),
             (.p 105 (.fieldAddr 1) [.t 8], none),
             (.load 106 none (some 8) (.t 105), none),
             (.p 107 (.fieldAddr 0) [.t 5], none),
             (.p 108 (.fieldAddr 0) [.t 107], none),
             (.load 109 none (some 5) (.t 108), none),
             (.load 110 (some (2, true)) (some 9) (.t 9), none),
             (.build 111 (.pagg [.int .i64 0, .int .i64 0, .int .i64 0, .bool false, .int .i64 0]) [(0, 1, .t 104), (1, 1, .t 106), (2, 1, .t 109), (3, 2, .t 110)], none),
             (.alloc 14 (.pagg [.int .i64 0, .int .i64 0, .int .i64 0, .bool false, .int .i64 0]), none),
             (.store (some (5, true)) (some 14) (.t 14) (.t 111), none)]))
          (.seq (.kill [1, 2, 4, 5, 6, 7, 8, 14] [2, 4, 5, 6, 8, 14] (.region [
              (.p 112 (.fieldAddr 0) [.t 8], none),
              (.load 113 none (some 8) (.t 112), none),
              (.load 114 (some (5, true)) (some 14) (.t 14), none),
              (.p 115 (.fieldAddr 0) [.t 5], none),
              (.p 116 (.fieldAddr 38) [.t 115], none),
              (.p 117 (.indexAddr (some 6) 5) [.t 116, .t 113], none),
              (.store (some (5, false)) (some 5) (.t 117) (.t 114), none)]))
           (.kill [1, 2, 4, 5, 6, 7, 14] [2, 4, 5, 6, 14] (.region [
              (.p 118 (.fieldAddr 68) [.t 5], none),
              (.loadmv 119 (some 5) (.t 118), none),
              (.load 120 (some (5, true)) (some 14) (.t 14), none),
              (.bslice 121 31 5 1 [.int .i64 0, .int .i64 0, .int .i64 0, .bool false, .int .i64 0] [(0, .t 120)], none),
              (.app 122 31 5 119 none (.t 121), none),
              (.p 123 (.fieldAddr 68) [.t 5], none),
              (.storemv (some 5) (.t 123) 122, none)]))))))))))
   (.kill [1, 2, 4, 5, 6, 7] [2, 4, 5, 6] (.region [
      (.p 32 .id [.t 7], none),
      (.p 33 (.bin .add) [.t 32, .c (.pv (.int .i64 1))], none),
      (.p 7 .id [.t 33], none)]))))
def irRef15Do : IR := (.seq (.region [
    (.box 2 (.t 0), none),
    (.alloc 4 (.agg [.pv (.int .i64 0), .pv (.int .i64 0), .pv (.int .i64 0), .pv (.int .u16 0), .pv (.int .i64 0), .pv (.int .u16 0), .pv (.bool false), .pv (.int .i64 0), .pv (.bool false), .pv (.int .i64 0), .pv (.bool false), .pv (.int .i64 0), .pv (.bool false), .pv (.int .i64 0), .pv (.bool false), .pv (.int .i64 0), .pv (.bool false), .pv (.int .i64 0), .pv (.bool false), .pv (.int .i64 0), .pv (.bool false), .pv (.int .i64 0), .pv (.bool false), .pv (.int .i64 0), .pv (.bool false), .pv (.int .i64 0), .pv (.bool false), .pv (.int .i64 0), .pv (.bool false), .pv (.int .i64 0), .pv (.bool false), .pv (.int .i64 0), .pv (.bool false), .pv (.int .i64 0), .pv (.bool false), .pv (.int .i64 0), .pv (.bool false), .pv (.int .i64 0), .pv (.int .i64 0), .pv (.int .i64 0), .pv (.int .i64 0), .pv (.bool false), .pv (.int .i64 0), .pv (.int .i64 0), .pv (.int .i64 0), .pv (.int .i64 0), .pv (.bool false), .pv (.int .i64 0), .pv (.int .i64 0), .pv (.int .i64 0), .pv (.int .i64 0), .pv (.bool false), .pv (.int .i64 0), .pv (.int .i64 0), .pv (.int .i64 0), .pv (.int .i64 0), .pv (.bool false), .pv (.int .i64 0), .pv (.int .i64 0), .pv (.int .i64 0), .pv (.int .i64 0), .pv (.bool false), .pv (.int .i64 0), .pv (.int .i64 0), .pv (.int .i64 0), .pv (.int .i64 0), .pv (.bool false), .pv (.int .i64 0), .os 31 5 []]), none)])
 (.seq (.kill [1, 2, 4] [2, 4] (.region [
     (.load 15 (some (68, true)) (some 2) (.t 2), none),
     (.build 16 (.agg [.pv (.int .i64 0), .pv (.int .i64 0), .pv (.int .i64 0), .pv (.int .u16 0), .pv (.int .i64 0), .pv (.int .u16 0), .pv (.bool false), .pv (.int .i64 0), .pv (.bool false), .pv (.int .i64 0), .pv (.bool false), .pv (.int .i64 0), .pv (.bool false), .pv (.int .i64 0), .pv (.bool false), .pv (.int .i64 0), .pv (.bool false), .pv (.int .i64 0), .pv (.bool false), .pv (.int .i64 0), .pv (.bool false), .pv (.int .i64 0), .pv (.bool false), .pv (.int .i64 0), .pv (.bool false), .pv (.int .i64 0), .pv (.bool false), .pv (.int .i64 0), .pv (.bool false), .pv (.int .i64 0), .pv (.bool false), .pv (.int .i64 0), .pv (.bool false), .pv (.int .i64 0), .pv (.bool false), .pv (.int .i64 0), .pv (.bool false), .pv (.int .i64 0), .pv (.int .i64 0), .pv (.int .i64 0), .pv (.int .i64 0), .pv (.bool false), .pv (.int .i64 0), .pv (.int .i64 0), .pv (.int .i64 0), .pv (.int .i64 0), .pv (.bool false), .pv (.int .i64 0), .pv (.int .i64 0), .pv (.int .i64 0), .pv (.int .i64 0), .pv (.bool false), .pv (.int .i64 0), .pv (.int .i64 0), .pv (.int .i64 0), .pv (.int .i64 0), .pv (.bool false), .pv (.int .i64 0), .pv (.int .i64 0), .pv (.int .i64 0), .pv (.int .i64 0), .pv (.bool false), .pv (.int .i64 0), .pv (.int .i64 0), .pv (.int .i64 0), .pv (.int .i64 0), .pv (.bool false), .pv (.int .i64 0), .os 31 5 []]) [(0, 68, .t 15)], none),
     (.alloc 5 (.agg [.pv (.int .i64 0), .pv (.int .i64 0), .pv (.int .i64 0), .pv (.int .u16 0), .pv (.int .i64 0), .pv (.int .u16 0), .pv (.bool false), .pv (.int .i64 0), .pv (.bool false), .pv (.int .i64 0), .pv (.bool false), .pv (.int .i64 0), .pv (.bool false), .pv (.int .i64 0), .pv (.bool false), .pv (.int .i64 0), .pv (.bool false), .pv (.int .i64 0), .pv (.bool false), .pv (.int .i64 0), .pv (.bool false), .pv (.int .i64 0), .pv (.bool false), .pv (.int .i64 0), .pv (.bool false), .pv (.int .i64 0), .pv (.bool false), .pv (.int .i64 0), .pv (.bool false), .pv (.int .i64 0), .pv (.bool false), .pv (.int .i64 0), .pv (.bool false), .pv (.int .i64 0), .pv (.bool false), .pv (.int .i64 0), .pv (.bool false), .pv (.int .i64 0), .pv (.int .i64 0), .pv (.int .i64 0), .pv (.int .i64 0), .pv (.bool false), .pv (.int .i64 0), .pv (.int .i64 0), .pv (.int .i64 0), .pv (.int .i64 0), .pv (.bool false), .pv (.int .i64 0), .pv (.int .i64 0), .pv (.int .i64 0), .pv (.int .i64 0), .pv (.bool false), .pv (.int .i64 0), .pv (.int .i64 0), .pv (.int .i64 0), .pv (.int .i64 0), .pv (.bool false), .pv (.int .i64 0), .pv (.int .i64 0), .pv (.int .i64 0), .pv (.int .i64 0), .pv (.bool false), .pv (.int .i64 0), .pv (.int .i64 0), .pv (.int .i64 0), .pv (.int .i64 0), .pv (.bool false), .pv (.int .i64 0), .os 31 5 []]), none),
     (.storemva 69 (some 5) (.t 5) 16, none)]))
  (.seq (.kill [1, 2, 4, 5] [2, 4, 5] (.region [
      (.p 17 (.fieldAddr 2) [.t 2], none),
      (.load 18 (some (2, false)) (some 2) (.t 17), none),
      (.p 19 (.fieldAddr 0) [.t 5], none),
      (.p 20 (.fieldAddr 4) [.t 19], none),
      (.store (some (2, false)) (some 5) (.t 20) (.t 18), none)]))
   (.seq (.kill [1, 2, 4, 5] [2, 4, 5] (.region [
       (.p 21 (.fieldAddr 0) [.t 2], none),
       (.load 22 none (some 2) (.t 21), none),
       (.p 23 (.bin .add) [.t 22, .c (.pv (.int .i64 1))], none),
       (.p 24 (.fieldAddr 0) [.t 5], none),
       (.p 25 (.fieldAddr 0) [.t 24], none),
       (.store none (some 5) (.t 25) (.t 23), none)]))
    (.seq (.kill [1, 2, 4, 5] [2, 4, 5] (.region [
        (.p 26 (.fieldAddr 2) [.t 2], none),
        (.load 27 (some (2, false)) (some 2) (.t 26), none),
        (.alloc 6 (.pagg [.int .i64 0, .int .u16 0]), none),
        (.store (some (2, true)) (some 6) (.t 6) (.t 27), none)]))
     (.seq (.seq (.kill [1, 2, 4, 5, 6] [2, 4, 5, 6] (.region [
          (.p 7 .id [.c (.pv (.int .i64 0))], none)]))
       (.block 0 (.loop (.kill [1, 2, 4, 5, 6, 7] [2, 4, 5, 6] irRef15Do_L1))))
      (.seq (.seq (.kill [2, 4, 5, 6] [2, 4, 5, 6] (.region [
           (.load 124 (some (2, true)) (some 6) (.t 6), none),
           (.p 125 (.fieldAddr 2) [.t 2], none),
           (.load 126 (some (2, false)) (some 2) (.t 125), none),
           (.p 127 (.seq true [.i .i64, .i .u16]) [.t 124, .t 126], none)]))
        (.cond (.t 127)
         (.seq (.kill [4, 5, 6] [4, 5, 6] (.region [
             (.load 128 (some (2, true)) (some 6) (.t 6), none),
             (.p 129 (.fieldAddr 0) [.t 5], none),
             (.p 130 (.fieldAddr 2) [.t 129], none),
             (.store (some (2, false)) (some 5) (.t 130) (.t 128), none)]))
          (.kill [4, 5] [4, 5] (.region [
             (.p 131 (.fieldAddr 0) [.t 5], none),
             (.p 132 (.fieldAddr 0) [.t 131], none),
             (.load 133 none (some 5) (.t 132), none),
             (.p 134 (.bin .add) [.t 133, .c (.pv (.int .i64 1))], none),
             (.p 135 (.fieldAddr 0) [.t 5], none),
             (.p 136 (.fieldAddr 1) [.t 135], none),
             (.store none (some 5) (.t 136) (.t 134), none)])))
         .skip))
       (.seq (.kill [4, 5] [4, 5] (.region [
           (.load 137 (some (69, true)) (some 5) (.t 5), none),
           (.store (some (69, true)) (some 4) (.t 4) (.t 137), none)]))
        .ret))))))))
theorem okRef15Do : okFn Try.prog Try.f12 irRef15Do [.cell 4 (some (69, true))] [] 2 = true := by kernel_rfl

-- consistoryref15.SameReplies
-- consistoryref15.SameReplies: args [39, 39]; lent []; rs [.t 4]; loops: L1 keeps [0, 1, 5] []
def irRef15SameReplies_L1 : IR := (.seq (.seq (.kill [0, 1, 5] [] (.region [
      (.p 11 .id [.t 5], none),
      (.p 12 .id [.t 0], none),
      (.p 13 (.len none) [.t 12], none),
      (.p 14 (.bin .lss) [.t 11, .t 13], none)]))
   (.cond (.t 14)
    .skip
    (.exit 0)))
  (.seq (.block 1 (.seq (.kill [0, 1, 5] [] (.region [
        (.p 17 .id [.t 0], none),
        (.p 18 .id [.t 5], none),
        (.p 19 (.indexAddr none 5) [.t 17, .t 18], none),
        (.load 20 (some (5, true)) (some 9999) (.t 19), none),
        (.p 21 .id [.t 1], none),
        (.p 22 .id [.t 5], none),
        (.p 23 (.indexAddr none 5) [.t 21, .t 22], none),
        (.load 24 (some (5, true)) (some 9999) (.t 23), none),
        (.p 25 (.seq true [.i .i64, .i .i64, .i .i64, .b, .i .i64]) [.t 20, .t 24], none)]))
     (.cond (.t 25)
      (.seq (.kill [] [] (.region [
          (.p 4 .id [.c (.pv (.bool false))], none)]))
       .ret)
      .skip)))
   (.kill [0, 1, 5] [] (.region [
      (.p 15 .id [.t 5], none),
      (.p 16 (.bin .add) [.t 15, .c (.pv (.int .i64 1))], none),
      (.p 5 .id [.t 16], none)]))))
def irRef15SameReplies : IR := (.seq (.region [
    (.p 4 .id [.c (.pv (.bool false))], none)])
 (.seq (.seq (.kill [0, 1] [] (.region [
      (.p 6 .id [.t 0], none),
      (.p 7 (.len none) [.t 6], none),
      (.p 8 .id [.t 1], none),
      (.p 9 (.len none) [.t 8], none),
      (.p 10 (.bin .neq) [.t 7, .t 9], none)]))
   (.cond (.t 10)
    (.seq (.kill [] [] (.region [
        (.p 4 .id [.c (.pv (.bool false))], none)]))
     .ret)
    .skip))
  (.seq (.seq (.kill [0, 1] [] (.region [
       (.p 5 .id [.c (.pv (.int .i64 0))], none)]))
    (.block 0 (.loop (.kill [0, 1, 5] [] irRef15SameReplies_L1))))
   (.seq (.kill [] [] (.region [
       (.p 4 .id [.c (.pv (.bool true))], none)]))
    .ret))))
theorem okRef15SameReplies : okFn Try.prog Try.f13 irRef15SameReplies [.t 4] [] 2 = true := by kernel_rfl

end Go.Proofs.Ytdbbbaaopngbcaa
