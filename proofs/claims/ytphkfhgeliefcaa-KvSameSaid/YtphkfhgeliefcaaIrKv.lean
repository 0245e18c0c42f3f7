/- The abstract code of functions, printed by gen_ir.py out of the program's form in Lean; each is checked against it. -/
import Derived.Test.YtphkfhgeliefcaaProg
import Derived.Test.YtphkfhgeliefcaaAbs2
set_option linter.unusedVariables false
set_option linter.unusedSimpArgs false
set_option maxRecDepth 100000
namespace Go.Proofs.Ytphkfhgeliefcaa
open Go.Abs
-- kv.one
-- kv.one: args [23, 28]; lent []; rs [.cell 4 (some (2, true)), .cell 5 (some (2, true))]; loops: 
def irKvOne : IR := (.seq (.region [
    (.box 2 (.t 0), none),
    (.box 3 (.t 1), none),
    (.alloc 4 (.pagg [.bool false, .int .i64 0]), none),
    (.alloc 5 (.pagg [.bool false, .int .i64 0]), none)])
 (.seq (.seq (.kill [2, 3, 4, 5] [2, 3, 4, 5] (.region [
      (.p 6 (.fieldAddr 0) [.t 2], none),
      (.load 7 none (some 2) (.t 6), none),
      (.p 8 (.un .not) [.t 7], none)]))
   (.cond (.t 8)
    (.kill [2, 3, 4, 5] [2, 3, 4, 5] (.region [
       (.p 9 (.fieldAddr 1) [.t 2], none),
       (.store none (some 2) (.t 9) (.c (.pv (.int .i64 0))), none)]))
    .skip))
  (.seq (.seq (.kill [2, 3, 4, 5] [2, 3, 4, 5] (.region [
       (.p 10 (.fieldAddr 0) [.t 3], none),
       (.load 11 none (some 3) (.t 10), none)]))
    (.block 0 (.seq (.kill [2, 3, 4, 5, 11] [2, 3, 4, 5] (.region [
         (.p 13 (.bin .eql) [.t 11, .c (.pv (.int .i64 1))], none),
         (.p 12 .id [.t 13], none)]))
      (.cond (.t 12)
       (.seq (.kill [2, 4, 5] [2, 4, 5] (.region [
           (.load 14 (some (2, true)) (some 2) (.t 2), none),
           (.p 15 (.fieldAddr 0) [.t 2], none),
           (.load 16 none (some 2) (.t 15), none),
           (.p 17 (.fieldAddr 1) [.t 2], none),
           (.load 18 none (some 2) (.t 17), none),
           (.build 19 (.pagg [.bool false, .int .i64 0]) [(0, 1, .t 16), (1, 1, .t 18)], none),
           (.store (some (2, true)) (some 4) (.t 4) (.t 14), none),
           (.store (some (2, true)) (some 5) (.t 5) (.t 19), none)]))
        .ret)
       (.seq (.kill [2, 3, 4, 5, 11] [2, 3, 4, 5] (.region [
           (.p 21 (.bin .eql) [.t 11, .c (.pv (.int .i64 2))], none),
           (.p 20 .id [.t 21], none)]))
        (.cond (.t 20)
         (.seq (.kill [2, 3, 4, 5] [2, 3, 4, 5] (.region [
             (.p 22 (.fieldAddr 2) [.t 3], none),
             (.load 23 none (some 3) (.t 22), none),
             (.call 24 17 [.t 23] [] [] [], none),
             (.p 25 (.fieldAddr 1) [.t 2], none),
             (.load 26 none (some 2) (.t 25), none),
             (.build 27 (.pagg [.bool false, .int .i64 0]) [(0, 1, .c (.pv (.bool true))), (1, 1, .t 26)], none),
             (.store (some (2, true)) (some 4) (.t 4) (.t 24), none),
             (.store (some (2, true)) (some 5) (.t 5) (.t 27), none)]))
          .ret)
         (.seq (.kill [2, 3, 4, 5, 11] [2, 3, 4, 5] (.region [
             (.p 29 (.bin .eql) [.t 11, .c (.pv (.int .i64 3))], none),
             (.p 28 .id [.t 29], none)]))
          (.cond (.t 28)
           (.seq (.kill [2, 3, 4, 5] [2, 3, 4, 5] (.region [
               (.p 30 (.fieldAddr 1) [.t 2], none),
               (.load 31 none (some 2) (.t 30), none),
               (.p 32 (.fieldAddr 2) [.t 3], none),
               (.load 33 none (some 3) (.t 32), none),
               (.p 34 (.bin .add) [.t 31, .t 33], none),
               (.call 35 17 [.t 34] [] [] [], none),
               (.store (some (2, true)) (some 2) (.t 2) (.t 35), none)]))
            (.seq (.kill [2, 4, 5] [2, 4, 5] (.region [
                (.load 36 (some (2, true)) (some 2) (.t 2), none),
                (.p 37 (.fieldAddr 1) [.t 2], none),
                (.load 38 none (some 2) (.t 37), none),
                (.build 39 (.pagg [.bool false, .int .i64 0]) [(0, 1, .c (.pv (.bool true))), (1, 1, .t 38)], none),
                (.store (some (2, true)) (some 4) (.t 4) (.t 36), none),
                (.store (some (2, true)) (some 5) (.t 5) (.t 39), none)]))
             .ret))
           (.seq (.kill [2, 3, 4, 5, 11] [2, 3, 4, 5] (.region [
               (.p 41 (.bin .eql) [.t 11, .c (.pv (.int .i64 4))], none),
               (.p 40 .id [.t 41], none)]))
            (.cond (.t 40)
             (.seq (.seq (.kill [2, 3, 4, 5] [2, 3, 4, 5] (.region [
                  (.p 42 (.fieldAddr 0) [.t 2], none),
                  (.load 43 none (some 2) (.t 42), none),
                  (.p 44 .id [.t 43], none),
                  (.p 45 (.fieldAddr 1) [.t 2], some (44, true)),
                  (.load 46 none (some 2) (.t 45), some (44, true)),
                  (.p 47 (.fieldAddr 2) [.t 3], some (44, true)),
                  (.load 48 none (some 3) (.t 47), some (44, true)),
                  (.p 49 (.bin .eql) [.t 46, .t 48], some (44, true)),
                  (.p 50 .pick [.t 44, .t 49, .c (.pv (.bool false))], none)]))
               (.cond (.t 50)
                (.seq (.kill [3, 4, 5] [3, 4, 5] (.region [
                    (.p 51 (.fieldAddr 3) [.t 3], none),
                    (.load 52 none (some 3) (.t 51), none),
                    (.call 53 17 [.t 52] [] [] [], none),
                    (.p 54 (.fieldAddr 3) [.t 3], none),
                    (.load 55 none (some 3) (.t 54), none),
                    (.build 56 (.pagg [.bool false, .int .i64 0]) [(0, 1, .c (.pv (.bool true))), (1, 1, .t 55)], none),
                    (.store (some (2, true)) (some 4) (.t 4) (.t 53), none),
                    (.store (some (2, true)) (some 5) (.t 5) (.t 56), none)]))
                 .ret)
                .skip))
              (.seq (.kill [2, 4, 5] [2, 4, 5] (.region [
                  (.load 57 (some (2, true)) (some 2) (.t 2), none),
                  (.p 58 (.fieldAddr 1) [.t 2], none),
                  (.load 59 none (some 2) (.t 58), none),
                  (.build 60 (.pagg [.bool false, .int .i64 0]) [(1, 1, .t 59)], none),
                  (.store (some (2, true)) (some 4) (.t 4) (.t 57), none),
                  (.store (some (2, true)) (some 5) (.t 5) (.t 60), none)]))
               .ret))
             (.seq (.kill [2, 4, 5, 11] [2, 4, 5] (.region [
                 (.p 62 (.bin .eql) [.t 11, .c (.pv (.int .i64 5))], none),
                 (.p 61 .id [.t 62], none)]))
              (.cond (.t 61)
               (.seq (.kill [2, 4, 5] [2, 4, 5] (.region [
                   (.build 63 (.pagg [.bool false, .int .i64 0]) [], none),
                   (.p 64 (.fieldAddr 0) [.t 2], none),
                   (.load 65 none (some 2) (.t 64), none),
                   (.p 66 (.fieldAddr 1) [.t 2], none),
                   (.load 67 none (some 2) (.t 66), none),
                   (.build 68 (.pagg [.bool false, .int .i64 0]) [(0, 1, .t 65), (1, 1, .t 67)], none),
                   (.store (some (2, true)) (some 4) (.t 4) (.t 63), none),
                   (.store (some (2, true)) (some 5) (.t 5) (.t 68), none)]))
                .ret)
               .skip))))))))))))
   (.seq (.kill [2, 4, 5] [2, 4, 5] (.region [
       (.load 69 (some (2, true)) (some 2) (.t 2), none),
       (.build 70 (.pagg [.bool false, .int .i64 0]) [], none),
       (.store (some (2, true)) (some 4) (.t 4) (.t 69), none),
       (.store (some (2, true)) (some 5) (.t 5) (.t 70), none)]))
    .ret))))
theorem okKvOne : okFn Try.prog Try.f13 irKvOne [.cell 4 (some (2, true)), .cell 5 (some (2, true))] [] 2 = true := by kernel_rfl

-- kv.some
-- kv.some: args [2]; lent []; rs [.cell 2 (some (2, true))]; loops: 
def irKvSome : IR := (.seq (.region [
    (.alloc 2 (.pagg [.bool false, .int .i64 0]), none)])
 (.seq (.kill [0, 2] [2] (.region [
     (.p 3 .id [.t 0], none),
     (.build 4 (.pagg [.bool false, .int .i64 0]) [(0, 1, .c (.pv (.bool true))), (1, 1, .t 3)], none),
     (.store (some (2, true)) (some 2) (.t 2) (.t 4), none)]))
  .ret))
theorem okKvSome : okFn Try.prog Try.f17 irKvSome [.cell 2 (some (2, true))] [] 1 = true := by kernel_rfl

-- kv.Do
-- kv.Do: args [24, 28]; lent []; rs [.cell 4 (some (32, true)), .cell 5 (some (2, true))]; loops: 
def irKvDo : IR := (.seq (.region [
    (.box 2 (.t 0), none),
    (.box 3 (.t 1), none),
    (.alloc 4 (.pagg [.bool false, .int .i64 0, .bool false, .int .i64 0, .bool false, .int .i64 0, .bool false, .int .i64 0, .bool false, .int .i64 0, .bool false, .int .i64 0, .bool false, .int .i64 0, .bool false, .int .i64 0, .bool false, .int .i64 0, .bool false, .int .i64 0, .bool false, .int .i64 0, .bool false, .int .i64 0, .bool false, .int .i64 0, .bool false, .int .i64 0, .bool false, .int .i64 0, .bool false, .int .i64 0]), none),
    (.alloc 5 (.pagg [.bool false, .int .i64 0]), none)])
 (.seq (.seq (.kill [2, 3, 4, 5] [2, 3, 4, 5] (.region [
      (.p 8 (.fieldAddr 1) [.t 3], none),
      (.load 9 none (some 3) (.t 8), none),
      (.p 10 (.bin .lss) [.t 9, .c (.pv (.int .i64 0))], none),
      (.p 11 .id [.t 10], none),
      (.p 12 (.fieldAddr 1) [.t 3], some (11, false)),
      (.load 13 none (some 3) (.t 12), some (11, false)),
      (.p 14 (.bin .geq) [.t 13, .c (.pv (.int .i64 16))], some (11, false)),
      (.p 15 .pick [.t 11, .c (.pv (.bool true)), .t 14], none),
      (.p 16 .id [.t 15], none),
      (.p 17 (.fieldAddr 0) [.t 3], some (16, false)),
      (.load 18 none (some 3) (.t 17), some (16, false)),
      (.p 19 (.bin .lss) [.t 18, .c (.pv (.int .i64 1))], some (16, false)),
      (.p 20 .pick [.t 16, .c (.pv (.bool true)), .t 19], none),
      (.p 21 .id [.t 20], none),
      (.p 22 (.fieldAddr 0) [.t 3], some (21, false)),
      (.load 23 none (some 3) (.t 22), some (21, false)),
      (.p 24 (.bin .gtr) [.t 23, .c (.pv (.int .i64 5))], some (21, false)),
      (.p 25 .pick [.t 21, .c (.pv (.bool true)), .t 24], none)]))
   (.cond (.t 25)
    (.seq (.kill [2, 4, 5] [2, 4, 5] (.region [
        (.load 26 (some (32, true)) (some 2) (.t 2), none),
        (.build 27 (.pagg [.bool false, .int .i64 0]) [], none),
        (.store (some (32, true)) (some 4) (.t 4) (.t 26), none),
        (.store (some (2, true)) (some 5) (.t 5) (.t 27), none)]))
     .ret)
    .skip))
  (.seq (.kill [2, 3, 4, 5] [2, 3, 4, 5] (.region [
      (.p 29 (.fieldAddr 1) [.t 3], none),
      (.load 30 none (some 3) (.t 29), none),
      (.p 31 (.indexAddr (some 16) 2) [.t 2, .t 30], none),
      (.load 32 (some (2, false)) (some 2) (.t 31), none),
      (.load 33 (some (4, true)) (some 3) (.t 3), none),
      (.call 34 13 [.t 32, .t 33] [] [] [], none),
      (.p 28 .id [.t 34], none),
      (.p 35 (.ext 0) [.t 28], none),
      (.p 36 (.ext 1) [.t 28], none),
      (.alloc 6 (.pagg [.bool false, .int .i64 0]), none),
      (.alloc 7 (.pagg [.bool false, .int .i64 0]), none),
      (.store (some (2, true)) (some 6) (.t 6) (.t 35), none),
      (.store (some (2, true)) (some 7) (.t 7) (.t 36), none)]))
   (.seq (.seq (.kill [2, 3, 4, 5, 6, 7] [2, 3, 4, 5, 6, 7] (.region [
        (.p 37 (.fieldAddr 0) [.t 3], none),
        (.load 38 none (some 3) (.t 37), none),
        (.p 39 (.bin .neq) [.t 38, .c (.pv (.int .i64 1))], none),
        (.p 40 .id [.t 39], none),
        (.p 41 (.fieldAddr 0) [.t 3], some (40, true)),
        (.load 42 none (some 3) (.t 41), some (40, true)),
        (.p 43 (.bin .neq) [.t 42, .c (.pv (.int .i64 4))], some (40, true)),
        (.p 44 .id [.t 43], some (40, true)),
        (.p 45 (.fieldAddr 0) [.t 7], some (44, false)),
        (.load 46 none (some 7) (.t 45), some (44, false)),
        (.p 47 .pick [.t 44, .c (.pv (.bool true)), .t 46], some (40, true)),
        (.p 48 .pick [.t 40, .t 47, .c (.pv (.bool false))], none)]))
     (.cond (.t 48)
      (.kill [2, 3, 4, 5, 6, 7] [2, 3, 4, 5, 6, 7] (.region [
         (.p 49 (.fieldAddr 1) [.t 3], none),
         (.load 50 none (some 3) (.t 49), none),
         (.load 51 (some (2, true)) (some 6) (.t 6), none),
         (.p 52 (.indexAddr (some 16) 2) [.t 2, .t 50], none),
         (.store (some (2, false)) (some 2) (.t 52) (.t 51), none)]))
      .skip))
    (.seq (.kill [2, 4, 5, 7] [2, 4, 5, 7] (.region [
        (.load 53 (some (32, true)) (some 2) (.t 2), none),
        (.load 54 (some (2, true)) (some 7) (.t 7), none),
        (.store (some (32, true)) (some 4) (.t 4) (.t 53), none),
        (.store (some (2, true)) (some 5) (.t 5) (.t 54), none)]))
     .ret)))))
theorem okKvDo : okFn Try.prog Try.f8 irKvDo [.cell 4 (some (32, true)), .cell 5 (some (2, true))] [] 2 = true := by kernel_rfl

-- kv.Put
-- kv.Put: args [24]; lent []; rs [.t 2]; loops: L1 keeps [3, 4, 7, 8] []
def irKvPut_L1 : IR := (.seq (.kill [3, 4, 7, 8] [] (.region [
     (.p 9 (.bin .lss) [.t 8, .c (.pv (.int .i64 16))], none)]))
  (.seq (.cond (.t 9)
    .skip
    (.exit 0))
   (.seq (.block 1 (.seq (.kill [3, 4, 7, 8] [] (.region [
         (.p 10 .id [.t 8], none),
         (.p 11 (.index 16 2 (some 2)) [.t 7, .t 8], none),
         (.alloc 6 (.pagg [.bool false, .int .i64 0]), none),
         (.p 5 .id [.t 10], none),
         (.store (some (2, true)) (some 6) (.t 6) (.t 11), none)]))
      (.seq (.kill [3, 4, 5, 6, 7, 8] [6] (.region [
          (.p 12 (.fieldAddr 0) [.t 6], none),
          (.load 13 none (some 6) (.t 12), none)]))
       (.cond (.t 13)
        (.seq (.kill [3, 4, 5, 6, 7, 8] [6] (.region [
            (.mv 14 3, none),
            (.p 15 .id [.t 5], none),
            (.p 16 (.conv .u64) [.t 15], none),
            (.call 17 15 [.t 14, .t 16, .c (.pv (.int .i64 1))] [] [] [], none),
            (.p 18 (.fieldAddr 1) [.t 6], none),
            (.load 19 none (some 6) (.t 18), none),
            (.call 20 14 [.t 17, .t 19] [] [] [], none),
            (.mv 3 20, none)]))
         (.kill [3, 4, 7, 8] [] (.region [
            (.p 21 .id [.t 4], none),
            (.p 22 (.bin .add) [.t 21, .c (.pv (.int .u64 1))], none),
            (.p 4 .id [.t 22], none)])))
        .skip))))
    (.kill [3, 4, 7, 8] [] (.region [
       (.p 23 (.bin .add) [.t 8, .c (.pv (.int .i64 1))], none),
       (.p 8 .id [.t 23], none)])))))
def irKvPut : IR := (.seq (.region [
    (.box 1 (.t 0), none),
    (.p 2 .id [.c (.os 5 1 [])], none)])
 (.seq (.kill [1] [1] (.region [
     (.p 3 .id [.c (.os 5 1 [])], none)]))
  (.seq (.kill [1, 3] [1] (.region [
      (.p 4 .id [.c (.pv (.int .u64 0))], none)]))
   (.seq (.seq (.kill [1, 3, 4] [1] (.region [
        (.load 7 (some (32, true)) (some 1) (.t 1), none),
        (.p 8 .id [.c (.pv (.int .i64 0))], none)]))
     (.block 0 (.loop (.kill [3, 4, 7, 8] [] irKvPut_L1))))
    (.seq (.kill [3, 4] [] (.region [
        (.p 24 .id [.t 4], none),
        (.call 25 16 [.c (.os 5 1 []), .t 24] [] [] [], none),
        (.mv 26 3, none),
        (.app 27 5 1 25 none (.t 26), none),
        (.mv 2 27, none)]))
     .ret)))))
theorem okKvPut : okFn Try.prog Try.f12 irKvPut [.t 2] [] 1 = true := by kernel_rfl

-- consistoryref14.Same
-- consistoryref14.Same: args [24, 24]; lent []; rs [.t 4]; loops: L1 keeps [2, 3, 5] [2, 3]
def irRef14Same_L1 : IR := (.seq (.seq (.kill [2, 3, 5] [2, 3] (.region [
      (.p 6 .id [.t 5], none),
      (.p 7 (.bin .lss) [.t 6, .c (.pv (.int .i64 16))], none)]))
   (.cond (.t 7)
    .skip
    (.exit 0)))
  (.seq (.block 1 (.seq (.kill [2, 3, 5] [2, 3] (.region [
        (.p 10 .id [.t 5], none),
        (.p 11 (.indexAddr (some 16) 2) [.t 2, .t 10], none),
        (.p 12 (.fieldAddr 0) [.t 11], none),
        (.load 13 none (some 2) (.t 12), none),
        (.p 14 .id [.t 5], none),
        (.p 15 (.indexAddr (some 16) 2) [.t 3, .t 14], none),
        (.p 16 (.fieldAddr 0) [.t 15], none),
        (.load 17 none (some 3) (.t 16), none),
        (.p 18 (.beq true) [.t 13, .t 17], none),
        (.p 19 .id [.t 18], none),
        (.p 20 .id [.t 5], some (19, false)),
        (.p 21 (.indexAddr (some 16) 2) [.t 2, .t 20], some (19, false)),
        (.p 22 (.fieldAddr 0) [.t 21], some (19, false)),
        (.load 23 none (some 2) (.t 22), some (19, false)),
        (.p 24 .id [.t 23], some (19, false)),
        (.p 25 .id [.t 5], some (24, true)),
        (.p 26 (.indexAddr (some 16) 2) [.t 2, .t 25], some (24, true)),
        (.p 27 (.fieldAddr 1) [.t 26], some (24, true)),
        (.load 28 none (some 2) (.t 27), some (24, true)),
        (.p 29 .id [.t 5], some (24, true)),
        (.p 30 (.indexAddr (some 16) 2) [.t 3, .t 29], some (24, true)),
        (.p 31 (.fieldAddr 1) [.t 30], some (24, true)),
        (.load 32 none (some 3) (.t 31), some (24, true)),
        (.p 33 (.bin .neq) [.t 28, .t 32], some (24, true)),
        (.p 34 .pick [.t 24, .t 33, .c (.pv (.bool false))], some (19, false)),
        (.p 35 .pick [.t 19, .c (.pv (.bool true)), .t 34], none)]))
     (.cond (.t 35)
      (.seq (.kill [] [] (.region [
          (.p 4 .id [.c (.pv (.bool false))], none)]))
       .ret)
      .skip)))
   (.kill [2, 3, 5] [2, 3] (.region [
      (.p 8 .id [.t 5], none),
      (.p 9 (.bin .add) [.t 8, .c (.pv (.int .i64 1))], none),
      (.p 5 .id [.t 9], none)]))))
def irRef14Same : IR := (.seq (.region [
    (.box 2 (.t 0), none),
    (.box 3 (.t 1), none),
    (.p 4 .id [.c (.pv (.bool false))], none)])
 (.seq (.seq (.kill [2, 3] [2, 3] (.region [
      (.p 5 .id [.c (.pv (.int .i64 0))], none)]))
   (.block 0 (.loop (.kill [2, 3, 5] [2, 3] irRef14Same_L1))))
  (.seq (.kill [] [] (.region [
      (.p 4 .id [.c (.pv (.bool true))], none)]))
   .ret)))
theorem okRef14Same : okFn Try.prog Try.f10 irRef14Same [.t 4] [] 2 = true := by kernel_rfl

-- consistorylaw14.wakes
-- consistorylaw14.wakes: args []; lent []; rs [.t 0]; loops: 
def irLaw14Wakes : IR := (.seq (.region [
    (.p 0 .id [.c (.pv (.bool false))], none)])
 (.seq (.kill [] [] (.region [
     (.build 4 (.pagg [.bool false, .int .i64 0, .bool false, .int .i64 0, .bool false, .int .i64 0, .bool false, .int .i64 0, .bool false, .int .i64 0, .bool false, .int .i64 0, .bool false, .int .i64 0, .bool false, .int .i64 0, .bool false, .int .i64 0, .bool false, .int .i64 0, .bool false, .int .i64 0, .bool false, .int .i64 0, .bool false, .int .i64 0, .bool false, .int .i64 0, .bool false, .int .i64 0, .bool false, .int .i64 0]) [], none),
     (.build 5 (.pagg (List.replicate 4 (.int .i64 0))) [(0, 1, .c (.pv (.int .i64 3))), (1, 1, .c (.pv (.int .i64 3))), (2, 1, .c (.pv (.int .i64 5)))], none),
     (.call 6 8 [.t 4, .t 5] [] [] [], none),
     (.p 3 .id [.t 6], none),
     (.p 7 (.ext 0) [.t 3], none),
     (.p 8 (.ext 1) [.t 3], none),
     (.alloc 1 (.pagg [.bool false, .int .i64 0, .bool false, .int .i64 0, .bool false, .int .i64 0, .bool false, .int .i64 0, .bool false, .int .i64 0, .bool false, .int .i64 0, .bool false, .int .i64 0, .bool false, .int .i64 0, .bool false, .int .i64 0, .bool false, .int .i64 0, .bool false, .int .i64 0, .bool false, .int .i64 0, .bool false, .int .i64 0, .bool false, .int .i64 0, .bool false, .int .i64 0, .bool false, .int .i64 0]), none),
     (.alloc 2 (.pagg [.bool false, .int .i64 0]), none),
     (.store (some (32, true)) (some 1) (.t 1) (.t 7), none),
     (.store (some (2, true)) (some 2) (.t 2) (.t 8), none)]))
  (.seq (.kill [1, 2] [1, 2] (.region [
      (.load 9 (some (2, true)) (some 2) (.t 2), none),
      (.build 10 (.pagg [.bool false, .int .i64 0]) [(0, 1, .c (.pv (.bool true))), (1, 1, .c (.pv (.int .i64 5)))], none),
      (.p 11 (.seq false [.b, .i .i64]) [.t 9, .t 10], none),
      (.p 12 .id [.t 11], none),
      (.p 13 (.indexAddr (some 16) 2) [.t 1, .c (.pv (.int .i64 3))], some (12, true)),
      (.load 14 (some (2, false)) (some 1) (.t 13), some (12, true)),
      (.build 15 (.pagg [.bool false, .int .i64 0]) [(0, 1, .c (.pv (.bool true))), (1, 1, .c (.pv (.int .i64 5)))], some (12, true)),
      (.p 16 (.seq false [.b, .i .i64]) [.t 14, .t 15], some (12, true)),
      (.p 17 .pick [.t 12, .t 16, .c (.pv (.bool false))], none),
      (.p 0 .id [.t 17], none)]))
   .ret)))
theorem okLaw14Wakes : okFn Try.prog Try.f7 irLaw14Wakes [.t 0] [] 0 = true := by kernel_rfl

-- consistorylaw14.KvSame
-- consistorylaw14.KvSame: args [24, 24]; lent []; rs [.t 4]; loops: 
def irLaw14KvSame : IR := (.seq (.region [
    (.box 2 (.t 0), none),
    (.box 3 (.t 1), none),
    (.p 4 .id [.c (.pv (.bool false))], none)])
 (.seq (.seq (.kill [2, 3] [2, 3] (.region [
      (.call 5 7 [] [] [] [], none),
      (.p 6 (.un .not) [.t 5], none)]))
   (.cond (.t 6)
    (.seq (.kill [] [] (.region [
        (.p 4 .id [.c (.pv (.bool false))], none)]))
     .ret)
    .skip))
  (.seq (.kill [2, 3] [2, 3] (.region [
      (.load 7 (some (32, true)) (some 2) (.t 2), none),
      (.call 8 12 [.t 7] [] [] [], none),
      (.load 9 (some (32, true)) (some 3) (.t 3), none),
      (.call 10 12 [.t 9] [] [] [], none),
      (.call 11 11 [.t 8, .t 10] [] [] [], none),
      (.load 12 (some (32, true)) (some 2) (.t 2), none),
      (.load 13 (some (32, true)) (some 3) (.t 3), none),
      (.call 14 10 [.t 12, .t 13] [] [] [], none),
      (.p 15 (.beq false) [.t 11, .t 14], none),
      (.p 4 .id [.t 15], none)]))
   .ret)))
theorem okLaw14KvSame : okFn Try.prog Try.f6 irLaw14KvSame [.t 4] [] 2 = true := by kernel_rfl

end Go.Proofs.Ytphkfhgeliefcaa
