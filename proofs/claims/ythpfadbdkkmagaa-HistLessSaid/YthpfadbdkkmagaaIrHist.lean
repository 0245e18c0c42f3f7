/- The abstract code of functions, printed by gen_ir.py out of the program's form in Lean; each is checked against it. -/
import Derived.Test.YthpfadbdkkmagaaProg
import Derived.Test.YthpfadbdkkmagaaAbs2
set_option linter.unusedVariables false
set_option linter.unusedSimpArgs false
set_option maxRecDepth 100000
namespace Go.Proofs.Ythpfadbdkkmagaa
open Go.Abs
-- kv.some
-- kv.some: args [2]; lent []; rs [.cell 2 (some (2, true))]; loops: 
def irKvSome : IR := (.seq (.region [
    (.alloc 2 (.pagg [.bool false, .int .i64 0]), none)])
 (.seq (.kill [0, 2] [2] (.region [
     (.p 3 .id [.t 0], none),
     (.build 4 (.pagg [.bool false, .int .i64 0]) [(0, 1, .c (.pv (.bool true))), (1, 1, .t 3)], none),
     (.store (some (2, true)) (some 2) (.t 2) (.t 4), none)]))
  .ret))
theorem okKvSome : okFn Try.prog Try.f25 irKvSome [.cell 2 (some (2, true))] [] 1 = true := by kernel_rfl

-- kv.one
-- kv.one: args [23, 36]; lent []; rs [.cell 4 (some (2, true)), .cell 5 (some (2, true))]; loops: 
def irKvOne : IR := (.seq (.region [
    (.box 2 (.t 0), none),
    (.box 3 (.t 1), none),
    (.alloc 4 (.pagg [.bool false, .int .i64 0]), none),
    (.alloc 5 (.pagg [.bool false, .int .i64 0]), none)])
 (.seq (.seq (.kill [2, 3, 4, 5] [2, 3, 4, 5] (.region [
      (.p 6 (.fieldAddr 0) [.t 2], none),
      (.load 7 none (some 2) (.t 6), none),
      (.p 8 (.un .not) [.t 7], none)]))
   (.cond (.t 8)
    (.kill [2, 3, 4, 5] [2, 3, 4, 5] (.region [
       (.p 9 (.fieldAddr 1) [.t 2], none),
       (.store none (some 2) (.t 9) (.c (.pv (.int .i64 0))), none)]))
    .skip))
  (.seq (.seq (.kill [2, 3, 4, 5] [2, 3, 4, 5] (.region [
       (.p 10 (.fieldAddr 0) [.t 3], none),
       (.load 11 none (some 3) (.t 10), none)]))
    (.block 0 (.seq (.kill [2, 3, 4, 5, 11] [2, 3, 4, 5] (.region [
         (.p 13 (.bin .eql) [.t 11, .c (.pv (.int .i64 1))], none),
         (.p 12 .id [.t 13], none)]))
      (.cond (.t 12)
       (.seq (.kill [2, 4, 5] [2, 4, 5] (.region [
           (.load 14 (some (2, true)) (some 2) (.t 2), none),
           (.p 15 (.fieldAddr 0) [.t 2], none),
           (.load 16 none (some 2) (.t 15), none),
           (.p 17 (.fieldAddr 1) [.t 2], none),
           (.load 18 none (some 2) (.t 17), none),
           (.build 19 (.pagg [.bool false, .int .i64 0]) [(0, 1, .t 16), (1, 1, .t 18)], none),
           (.store (some (2, true)) (some 4) (.t 4) (.t 14), none),
           (.store (some (2, true)) (some 5) (.t 5) (.t 19), none)]))
        .ret)
       (.seq (.kill [2, 3, 4, 5, 11] [2, 3, 4, 5] (.region [
           (.p 21 (.bin .eql) [.t 11, .c (.pv (.int .i64 2))], none),
           (.p 20 .id [.t 21], none)]))
        (.cond (.t 20)
         (.seq (.kill [2, 3, 4, 5] [2, 3, 4, 5] (.region [
             (.p 22 (.fieldAddr 2) [.t 3], none),
             (.load 23 none (some 3) (.t 22), none),
             (.call 24 25 [.t 23] [] [] [], none),
             (.p 25 (.fieldAddr 1) [.t 2], none),
             (.load 26 none (some 2) (.t 25), none),
             (.build 27 (.pagg [.bool false, .int .i64 0]) [(0, 1, .c (.pv (.bool true))), (1, 1, .t 26)], none),
             (.store (some (2, true)) (some 4) (.t 4) (.t 24), none),
             (.store (some (2, true)) (some 5) (.t 5) (.t 27), none)]))
          .ret)
         (.seq (.kill [2, 3, 4, 5, 11] [2, 3, 4, 5] (.region [
             (.p 29 (.bin .eql) [.t 11, .c (.pv (.int .i64 3))], none),
             (.p 28 .id [.t 29], none)]))
          (.cond (.t 28)
           (.seq (.kill [2, 3, 4, 5] [2, 3, 4, 5] (.region [
               (.p 30 (.fieldAddr 1) [.t 2], none),
               (.load 31 none (some 2) (.t 30), none),
               (.p 32 (.fieldAddr 2) [.t 3], none),
               (.load 33 none (some 3) (.t 32), none),
               (.p 34 (.bin .add) [.t 31, .t 33], none),
               (.call 35 25 [.t 34] [] [] [], none),
               (.store (some (2, true)) (some 2) (.t 2) (.t 35), none)]))
            (.seq (.kill [2, 4, 5] [2, 4, 5] (.region [
                (.load 36 (some (2, true)) (some 2) (.t 2), none),
                (.p 37 (.fieldAddr 1) [.t 2], none),
                (.load 38 none (some 2) (.t 37), none),
                (.build 39 (.pagg [.bool false, .int .i64 0]) [(0, 1, .c (.pv (.bool true))), (1, 1, .t 38)], none),
                (.store (some (2, true)) (some 4) (.t 4) (.t 36), none),
                (.store (some (2, true)) (some 5) (.t 5) (.t 39), none)]))
             .ret))
           (.seq (.kill [2, 3, 4, 5, 11] [2, 3, 4, 5] (.region [
               (.p 41 (.bin .eql) [.t 11, .c (.pv (.int .i64 4))], none),
               (.p 40 .id [.t 41], none)]))
            (.cond (.t 40)
             (.seq (.seq (.kill [2, 3, 4, 5] [2, 3, 4, 5] (.region [
                  (.p 42 (.fieldAddr 0) [.t 2], none),
                  (.load 43 none (some 2) (.t 42), none),
                  (.p 44 .id [.t 43], none),
                  (.p 45 (.fieldAddr 1) [.t 2], some (44, true)),
                  (.load 46 none (some 2) (.t 45), some (44, true)),
                  (.p 47 (.fieldAddr 2) [.t 3], some (44, true)),
                  (.load 48 none (some 3) (.t 47), some (44, true)),
                  (.p 49 (.bin .eql) [.t 46, .t 48], some (44, true)),
                  (.p 50 .pick [.t 44, .t 49, .c (.pv (.bool false))], none)]))
               (.cond (.t 50)
                (.seq (.kill [3, 4, 5] [3, 4, 5] (.region [
                    (.p 51 (.fieldAddr 3) [.t 3], none),
                    (.load 52 none (some 3) (.t 51), none),
                    (.call 53 25 [.t 52] [] [] [], none),
                    (.p 54 (.fieldAddr 3) [.t 3], none),
                    (.load 55 none (some 3) (.t 54), none),
                    (.build 56 (.pagg [.bool false, .int .i64 0]) [(0, 1, .c (.pv (.bool true))), (1, 1, .t 55)], none),
                    (.store (some (2, true)) (some 4) (.t 4) (.t 53), none),
                    (.store (some (2, true)) (some 5) (.t 5) (.t 56), none)]))
                 .ret)
                .skip))
              (.seq (.kill [2, 4, 5] [2, 4, 5] (.region [
                  (.load 57 (some (2, true)) (some 2) (.t 2), none),
                  (.p 58 (.fieldAddr 1) [.t 2], none),
                  (.load 59 none (some 2) (.t 58), none),
                  (.build 60 (.pagg [.bool false, .int .i64 0]) [(1, 1, .t 59)], none),
                  (.store (some (2, true)) (some 4) (.t 4) (.t 57), none),
                  (.store (some (2, true)) (some 5) (.t 5) (.t 60), none)]))
               .ret))
             (.seq (.kill [2, 4, 5, 11] [2, 4, 5] (.region [
                 (.p 62 (.bin .eql) [.t 11, .c (.pv (.int .i64 5))], none),
                 (.p 61 .id [.t 62], none)]))
              (.cond (.t 61)
               (.seq (.kill [2, 4, 5] [2, 4, 5] (.region [
                   (.build 63 (.pagg [.bool false, .int .i64 0]) [], none),
                   (.p 64 (.fieldAddr 0) [.t 2], none),
                   (.load 65 none (some 2) (.t 64), none),
                   (.p 66 (.fieldAddr 1) [.t 2], none),
                   (.load 67 none (some 2) (.t 66), none),
                   (.build 68 (.pagg [.bool false, .int .i64 0]) [(0, 1, .t 65), (1, 1, .t 67)], none),
                   (.store (some (2, true)) (some 4) (.t 4) (.t 63), none),
                   (.store (some (2, true)) (some 5) (.t 5) (.t 68), none)]))
                .ret)
               .skip))))))))))))
   (.seq (.kill [2, 4, 5] [2, 4, 5] (.region [
       (.load 69 (some (2, true)) (some 2) (.t 2), none),
       (.build 70 (.pagg [.bool false, .int .i64 0]) [], none),
       (.store (some (2, true)) (some 4) (.t 4) (.t 69), none),
       (.store (some (2, true)) (some 5) (.t 5) (.t 70), none)]))
    .ret))))
theorem okKvOne : okFn Try.prog Try.f24 irKvOne [.cell 4 (some (2, true)), .cell 5 (some (2, true))] [] 2 = true := by kernel_rfl

-- kv.Do
-- kv.Do: args [24, 36]; lent []; rs [.cell 4 (some (32, true)), .cell 5 (some (2, true))]; loops: 
def irKvDo : IR := (.seq (.region [
    (.box 2 (.t 0), none),
    (.box 3 (.t 1), none),
    (.alloc 4 (.pagg [.bool false, .int .i64 0, .bool false, .int .i64 0, .bool false, .int .i64 0, .bool false, .int .i64 0, .bool false, .int .i64 0, .bool false, .int .i64 0, .bool false, .int .i64 0, .bool false, .int .i64 0, .bool false, .int .i64 0, .bool false, .int .i64 0, .bool false, .int .i64 0, .bool false, .int .i64 0, .bool false, .int .i64 0, .bool false, .int .i64 0, .bool false, .int .i64 0, .bool false, .int .i64 0]), none),
    (.alloc 5 (.pagg [.bool false, .int .i64 0]), none)])
 (.seq (.seq (.kill [2, 3, 4, 5] [2, 3, 4, 5] (.region [
      (.p 8 (.fieldAddr 1) [.t 3], none),
      (.load 9 none (some 3) (.t 8), none),
      (.p 10 (.bin .lss) [.t 9, .c (.pv (.int .i64 0))], none),
      (.p 11 .id [.t 10], none),
      (.p 12 (.fieldAddr 1) [.t 3], some (11, false)),
      (.load 13 none (some 3) (.t 12), some (11, false)),
      (.p 14 (.bin .geq) [.t 13, .c (.pv (.int .i64 16))], some (11, false)),
      (.p 15 .pick [.t 11, .c (.pv (.bool true)), .t 14], none),
      (.p 16 .id [.t 15], none),
      (.p 17 (.fieldAddr 0) [.t 3], some (16, false)),
      (.load 18 none (some 3) (.t 17), some (16, false)),
      (.p 19 (.bin .lss) [.t 18, .c (.pv (.int .i64 1))], some (16, false)),
      (.p 20 .pick [.t 16, .c (.pv (.bool true)), .t 19], none),
      (.p 21 .id [.t 20], none),
      (.p 22 (.fieldAddr 0) [.t 3], some (21, false)),
      (.load 23 none (some 3) (.t 22), some (21, false)),
      (.p 24 (.bin .gtr) [.t 23, .c (.pv (.int .i64 5))], some (21, false)),
      (.p 25 .pick [.t 21, .c (.pv (.bool true)), .t 24], none)]))
   (.cond (.t 25)
    (.seq (.kill [2, 4, 5] [2, 4, 5] (.region [
        (.load 26 (some (32, true)) (some 2) (.t 2), none),
        (.build 27 (.pagg [.bool false, .int .i64 0]) [], none),
        (.store (some (32, true)) (some 4) (.t 4) (.t 26), none),
        (.store (some (2, true)) (some 5) (.t 5) (.t 27), none)]))
     .ret)
    .skip))
  (.seq (.kill [2, 3, 4, 5] [2, 3, 4, 5] (.region [
      (.p 29 (.fieldAddr 1) [.t 3], none),
      (.load 30 none (some 3) (.t 29), none),
      (.p 31 (.indexAddr (some 16) 2) [.t 2, .t 30], none),
      (.load 32 (some (2, false)) (some 2) (.t 31), none),
      (.load 33 (some (4, true)) (some 3) (.t 3), none),
      (.call 34 24 [.t 32, .t 33] [] [] [], none),
      (.p 28 .id [.t 34], none),
      (.p 35 (.ext 0) [.t 28], none),
      (.p 36 (.ext 1) [.t 28], none),
      (.alloc 6 (.pagg [.bool false, .int .i64 0]), none),
      (.alloc 7 (.pagg [.bool false, .int .i64 0]), none),
      (.store (some (2, true)) (some 6) (.t 6) (.t 35), none),
      (.store (some (2, true)) (some 7) (.t 7) (.t 36), none)]))
   (.seq (.seq (.kill [2, 3, 4, 5, 6, 7] [2, 3, 4, 5, 6, 7] (.region [
        (.p 37 (.fieldAddr 0) [.t 3], none),
        (.load 38 none (some 3) (.t 37), none),
        (.p 39 (.bin .neq) [.t 38, .c (.pv (.int .i64 1))], none),
        (.p 40 .id [.t 39], none),
        (.p 41 (.fieldAddr 0) [.t 3], some (40, true)),
        (.load 42 none (some 3) (.t 41), some (40, true)),
        (.p 43 (.bin .neq) [.t 42, .c (.pv (.int .i64 4))], some (40, true)),
        (.p 44 .id [.t 43], some (40, true)),
        (.p 45 (.fieldAddr 0) [.t 7], some (44, false)),
        (.load 46 none (some 7) (.t 45), some (44, false)),
        (.p 47 .pick [.t 44, .c (.pv (.bool true)), .t 46], some (40, true)),
        (.p 48 .pick [.t 40, .t 47, .c (.pv (.bool false))], none)]))
     (.cond (.t 48)
      (.kill [2, 3, 4, 5, 6, 7] [2, 3, 4, 5, 6, 7] (.region [
         (.p 49 (.fieldAddr 1) [.t 3], none),
         (.load 50 none (some 3) (.t 49), none),
         (.load 51 (some (2, true)) (some 6) (.t 6), none),
         (.p 52 (.indexAddr (some 16) 2) [.t 2, .t 50], none),
         (.store (some (2, false)) (some 2) (.t 52) (.t 51), none)]))
      .skip))
    (.seq (.kill [2, 4, 5, 7] [2, 4, 5, 7] (.region [
        (.load 53 (some (32, true)) (some 2) (.t 2), none),
        (.load 54 (some (2, true)) (some 7) (.t 7), none),
        (.store (some (32, true)) (some 4) (.t 4) (.t 53), none),
        (.store (some (2, true)) (some 5) (.t 5) (.t 54), none)]))
     .ret)))))
theorem okKvDo : okFn Try.prog Try.f20 irKvDo [.cell 4 (some (32, true)), .cell 5 (some (2, true))] [] 2 = true := by kernel_rfl

-- consistoryref14.Do
-- consistoryref14.Do: args [24, 36]; lent []; rs [.cell 4 (some (32, true)), .cell 5 (some (2, true))]; loops: 
def irRef14Do : IR := (.seq (.region [
    (.box 2 (.t 0), none),
    (.box 3 (.t 1), none),
    (.alloc 4 (.pagg [.bool false, .int .i64 0, .bool false, .int .i64 0, .bool false, .int .i64 0, .bool false, .int .i64 0, .bool false, .int .i64 0, .bool false, .int .i64 0, .bool false, .int .i64 0, .bool false, .int .i64 0, .bool false, .int .i64 0, .bool false, .int .i64 0, .bool false, .int .i64 0, .bool false, .int .i64 0, .bool false, .int .i64 0, .bool false, .int .i64 0, .bool false, .int .i64 0, .bool false, .int .i64 0]), none),
    (.alloc 5 (.pagg [.bool false, .int .i64 0]), none)])
 (.seq (.seq (.kill [2, 3, 4, 5] [2, 3, 4, 5] (.region [
      (.p 9 (.fieldAddr 1) [.t 3], none),
      (.load 10 none (some 3) (.t 9), none),
      (.p 11 (.bin .lss) [.t 10, .c (.pv (.int .i64 0))], none),
      (.p 12 .id [.t 11], none),
      (.p 13 (.fieldAddr 1) [.t 3], some (12, false)),
      (.load 14 none (some 3) (.t 13), some (12, false)),
      (.p 15 (.bin .gtr) [.t 14, .c (.pv (.int .i64 15))], some (12, false)),
      (.p 16 .pick [.t 12, .c (.pv (.bool true)), .t 15], none),
      (.p 17 .id [.t 16], none),
      (.p 18 (.fieldAddr 0) [.t 3], some (17, false)),
      (.load 19 none (some 3) (.t 18), some (17, false)),
      (.p 20 (.bin .lss) [.t 19, .c (.pv (.int .i64 1))], some (17, false)),
      (.p 21 .pick [.t 17, .c (.pv (.bool true)), .t 20], none),
      (.p 22 .id [.t 21], none),
      (.p 23 (.fieldAddr 0) [.t 3], some (22, false)),
      (.load 24 none (some 3) (.t 23), some (22, false)),
      (.p 25 (.bin .gtr) [.t 24, .c (.pv (.int .i64 5))], some (22, false)),
      (.p 26 .pick [.t 22, .c (.pv (.bool true)), .t 25], none)]))
   (.cond (.t 26)
    (.seq (.kill [2, 4, 5] [2, 4, 5] (.region [
        (.load 27 (some (32, true)) (some 2) (.t 2), none),
        (.build 28 (.pagg [.bool false, .int .i64 0]) [], none),
        (.store (some (32, true)) (some 4) (.t 4) (.t 27), none),
        (.store (some (2, true)) (some 5) (.t 5) (.t 28), none)]))
     .ret)
    .skip))
  (.seq (.kill [2, 3, 4, 5] [2, 3, 4, 5] (.region [
      (.p 29 (.fieldAddr 1) [.t 3], none),
      (.load 30 none (some 3) (.t 29), none),
      (.p 31 (.indexAddr (some 16) 2) [.t 2, .t 30], none),
      (.p 32 (.fieldAddr 0) [.t 31], none),
      (.load 33 none (some 2) (.t 32), none),
      (.p 6 .id [.t 33], none)]))
   (.seq (.kill [2, 3, 4, 5, 6] [2, 3, 4, 5] (.region [
       (.p 7 .id [.c (.pv (.int .i64 0))], none)]))
    (.seq (.seq (.kill [2, 3, 4, 5, 6, 7] [2, 3, 4, 5] (.region [
         (.p 34 .id [.t 6], none)]))
      (.cond (.t 34)
       (.kill [2, 3, 4, 5, 6] [2, 3, 4, 5] (.region [
          (.p 35 (.fieldAddr 1) [.t 3], none),
          (.load 36 none (some 3) (.t 35), none),
          (.p 37 (.indexAddr (some 16) 2) [.t 2, .t 36], none),
          (.p 38 (.fieldAddr 1) [.t 37], none),
          (.load 39 none (some 2) (.t 38), none),
          (.p 7 .id [.t 39], none)]))
       .skip))
     (.seq (.kill [2, 3, 4, 5, 6, 7] [2, 3, 4, 5] (.region [
         (.p 40 .id [.t 7], none),
         (.build 41 (.pagg [.bool false, .int .i64 0]) [(0, 1, .c (.pv (.bool true))), (1, 1, .t 40)], none),
         (.alloc 8 (.pagg [.bool false, .int .i64 0]), none),
         (.store (some (2, true)) (some 8) (.t 8) (.t 41), none)]))
      (.seq (.seq (.kill [2, 3, 4, 5, 6, 7, 8] [2, 3, 4, 5, 8] (.region [
           (.p 42 (.fieldAddr 0) [.t 3], none),
           (.load 43 none (some 3) (.t 42), none)]))
        (.block 0 (.seq (.kill [2, 3, 4, 5, 6, 7, 8, 43] [2, 3, 4, 5, 8] (.region [
             (.p 51 (.bin .eql) [.t 43, .c (.pv (.int .i64 1))], none),
             (.p 50 .id [.t 51], none)]))
          (.cond (.t 50)
           (.kill [2, 4, 5, 6, 8] [2, 4, 5, 8] (.region [
              (.p 52 .id [.t 6], none),
              (.p 53 (.fieldAddr 0) [.t 8], none),
              (.store none (some 8) (.t 53) (.t 52), none)]))
           (.seq (.kill [2, 3, 4, 5, 6, 7, 8, 43] [2, 3, 4, 5, 8] (.region [
               (.p 55 (.bin .eql) [.t 43, .c (.pv (.int .i64 2))], none),
               (.p 54 .id [.t 55], none)]))
            (.cond (.t 54)
             (.kill [2, 3, 4, 5, 8] [2, 3, 4, 5, 8] (.region [
                (.p 56 (.fieldAddr 1) [.t 3], none),
                (.load 57 none (some 3) (.t 56), none),
                (.p 58 (.fieldAddr 2) [.t 3], none),
                (.load 59 none (some 3) (.t 58), none),
                (.build 60 (.pagg [.bool false, .int .i64 0]) [(0, 1, .c (.pv (.bool true))), (1, 1, .t 59)], none),
                (.p 61 (.indexAddr (some 16) 2) [.t 2, .t 57], none),
                (.store (some (2, false)) (some 2) (.t 61) (.t 60), none)]))
             (.seq (.kill [2, 3, 4, 5, 6, 7, 8, 43] [2, 3, 4, 5, 8] (.region [
                 (.p 63 (.bin .eql) [.t 43, .c (.pv (.int .i64 3))], none),
                 (.p 62 .id [.t 63], none)]))
              (.cond (.t 62)
               (.seq (.kill [2, 3, 4, 5, 7, 8] [2, 3, 4, 5, 8] (.region [
                   (.p 64 .id [.t 7], none),
                   (.p 65 (.fieldAddr 2) [.t 3], none),
                   (.load 66 none (some 3) (.t 65), none),
                   (.p 67 (.bin .add) [.t 64, .t 66], none),
                   (.p 68 (.fieldAddr 1) [.t 8], none),
                   (.store none (some 8) (.t 68) (.t 67), none)]))
                (.kill [2, 3, 4, 5, 7, 8] [2, 3, 4, 5, 8] (.region [
                   (.p 69 (.fieldAddr 1) [.t 3], none),
                   (.load 70 none (some 3) (.t 69), none),
                   (.p 71 .id [.t 7], none),
                   (.p 72 (.fieldAddr 2) [.t 3], none),
                   (.load 73 none (some 3) (.t 72), none),
                   (.p 74 (.bin .add) [.t 71, .t 73], none),
                   (.build 75 (.pagg [.bool false, .int .i64 0]) [(0, 1, .c (.pv (.bool true))), (1, 1, .t 74)], none),
                   (.p 76 (.indexAddr (some 16) 2) [.t 2, .t 70], none),
                   (.store (some (2, false)) (some 2) (.t 76) (.t 75), none)])))
               (.seq (.kill [2, 3, 4, 5, 6, 7, 8, 43] [2, 3, 4, 5, 8] (.region [
                   (.p 78 (.bin .eql) [.t 43, .c (.pv (.int .i64 4))], none),
                   (.p 77 .id [.t 78], none)]))
                (.cond (.t 77)
                 (.seq (.kill [2, 3, 4, 5, 6, 7, 8] [2, 3, 4, 5, 8] (.region [
                     (.p 79 .id [.t 6], none),
                     (.p 80 .id [.t 79], none),
                     (.p 81 .id [.t 7], some (80, true)),
                     (.p 82 (.fieldAddr 2) [.t 3], some (80, true)),
                     (.load 83 none (some 3) (.t 82), some (80, true)),
                     (.p 84 (.bin .eql) [.t 81, .t 83], some (80, true)),
                     (.p 85 .pick [.t 80, .t 84, .c (.pv (.bool false))], none),
                     (.p 86 (.fieldAddr 0) [.t 8], none),
                     (.store none (some 8) (.t 86) (.t 85), none)]))
                  (.seq (.kill [2, 3, 4, 5, 8] [2, 3, 4, 5, 8] (.region [
                      (.p 87 (.fieldAddr 0) [.t 8], none),
                      (.load 88 none (some 8) (.t 87), none)]))
                   (.cond (.t 88)
                    (.seq (.kill [2, 3, 4, 5, 8] [2, 3, 4, 5, 8] (.region [
                        (.p 89 (.fieldAddr 3) [.t 3], none),
                        (.load 90 none (some 3) (.t 89), none),
                        (.p 91 (.fieldAddr 1) [.t 8], none),
                        (.store none (some 8) (.t 91) (.t 90), none)]))
                     (.kill [2, 3, 4, 5, 8] [2, 3, 4, 5, 8] (.region [
                        (.p 92 (.fieldAddr 1) [.t 3], none),
                        (.load 93 none (some 3) (.t 92), none),
                        (.p 94 (.fieldAddr 3) [.t 3], none),
                        (.load 95 none (some 3) (.t 94), none),
                        (.build 96 (.pagg [.bool false, .int .i64 0]) [(0, 1, .c (.pv (.bool true))), (1, 1, .t 95)], none),
                        (.p 97 (.indexAddr (some 16) 2) [.t 2, .t 93], none),
                        (.store (some (2, false)) (some 2) (.t 97) (.t 96), none)])))
                    .skip)))
                 (.seq (.kill [2, 3, 4, 5, 6, 8] [2, 3, 4, 5, 8] (.region [
                     (.p 44 .id [.t 6], none),
                     (.p 45 (.fieldAddr 0) [.t 8], none),
                     (.store none (some 8) (.t 45) (.t 44), none)]))
                  (.kill [2, 3, 4, 5, 8] [2, 3, 4, 5, 8] (.region [
                     (.p 46 (.fieldAddr 1) [.t 3], none),
                     (.load 47 none (some 3) (.t 46), none),
                     (.build 48 (.pagg [.bool false, .int .i64 0]) [], none),
                     (.p 49 (.indexAddr (some 16) 2) [.t 2, .t 47], none),
                     (.store (some (2, false)) (some 2) (.t 49) (.t 48), none)])))))))))))))
       (.seq (.kill [2, 4, 5, 8] [2, 4, 5, 8] (.region [
           (.load 98 (some (32, true)) (some 2) (.t 2), none),
           (.load 99 (some (2, true)) (some 8) (.t 8), none),
           (.store (some (32, true)) (some 4) (.t 4) (.t 98), none),
           (.store (some (2, true)) (some 5) (.t 5) (.t 99), none)]))
        .ret))))))))
theorem okRef14Do : okFn Try.prog Try.f12 irRef14Do [.cell 4 (some (32, true)), .cell 5 (some (2, true))] [] 2 = true := by kernel_rfl

-- hist.ahead
-- hist.ahead: args [40, 40]; lent []; rs [.t 4]; loops: 
def irHistAhead : IR := (.seq (.region [
    (.box 2 (.t 0), none),
    (.box 3 (.t 1), none),
    (.p 4 .id [.c (.pv (.bool false))], none)])
 (.seq (.kill [2, 3] [2, 3] (.region [
     (.p 5 (.fieldAddr 6) [.t 2], none),
     (.load 6 none (some 2) (.t 5), none),
     (.p 7 .id [.t 6], none),
     (.p 8 (.fieldAddr 5) [.t 2], some (7, true)),
     (.load 9 none (some 2) (.t 8), some (7, true)),
     (.p 10 (.fieldAddr 4) [.t 3], some (7, true)),
     (.load 11 none (some 3) (.t 10), some (7, true)),
     (.p 12 (.bin .lss) [.t 9, .t 11], some (7, true)),
     (.p 13 .pick [.t 7, .t 12, .c (.pv (.bool false))], none),
     (.p 4 .id [.t 13], none)]))
  .ret))
theorem okHistAhead : okFn Try.prog Try.f23 irHistAhead [.t 4] [] 2 = true := by kernel_rfl

-- hist.search.may
-- hist.search.may: args [49, 44, 3]; lent [0, None]; rs [.t 6]; loops: L1 keeps [0, 1, 2, 17, 18] [1000, 1001]
def irHistSearchMay_L1 : IR := (.seq (.kill [0, 1, 2, 17, 18] [1000, 1001] (.region [
     (.p 19 (.bin .lss) [.t 18, .t 17], none)]))
  (.seq (.cond (.t 19)
    .skip
    (.exit 0))
   (.seq (.block 1 (.seq (.kill [0, 1, 2, 17, 18] [1000, 1001] (.region [
         (.p 20 .id [.t 18], none),
         (.p 7 .id [.t 20], none)]))
      (.seq (.kill [0, 1, 2, 7, 17, 18] [1000, 1001] (.region [
          (.p 21 .id [.t 7], none),
          (.p 22 .id [.t 2], none),
          (.p 23 (.bin .neq) [.t 21, .t 22], none),
          (.p 24 .id [.t 23], none),
          (.p 25 .id [.t 1], some (24, true)),
          (.p 26 .id [.t 7], some (24, true)),
          (.p 27 (.bin .shr) [.t 25, .t 26], some (24, true)),
          (.p 28 (.bin .and) [.t 27, .c (.pv (.int .u16 1))], some (24, true)),
          (.p 29 (.bin .eql) [.t 28, .c (.pv (.int .u16 0))], some (24, true)),
          (.p 30 .pick [.t 24, .t 29, .c (.pv (.bool false))], none),
          (.p 31 .id [.t 30], none),
          (.p 32 .id [.t 0], some (31, true)),
          (.p 33 .nilc [.t 32], some (31, true)),
          (.p 34 (.fieldAddr 0) [.t 33], some (31, true)),
          (.load 35 none (some 1000) (.t 34), some (31, true)),
          (.p 36 .id [.t 7], some (31, true)),
          (.p 37 (.indexAddr none 9) [.t 35, .t 36], some (31, true)),
          (.load 38 (some (9, true)) (some 9999) (.t 37), some (31, true)),
          (.p 39 .id [.t 0], some (31, true)),
          (.p 40 .nilc [.t 39], some (31, true)),
          (.p 41 (.fieldAddr 0) [.t 40], some (31, true)),
          (.load 42 none (some 1000) (.t 41), some (31, true)),
          (.p 43 .id [.t 2], some (31, true)),
          (.p 44 (.indexAddr none 9) [.t 42, .t 43], some (31, true)),
          (.load 45 (some (9, true)) (some 9999) (.t 44), some (31, true)),
          (.call 46 23 [.t 38, .t 45] [] [] [], some (31, true)),
          (.p 47 .pick [.t 31, .t 46, .c (.pv (.bool false))], none)]))
       (.cond (.t 47)
        (.seq (.kill [0] [1000, 1001] (.region [
            (.p 6 .id [.c (.pv (.bool false))], none)]))
         .ret)
        .skip))))
    (.kill [0, 1, 2, 17, 18] [1000, 1001] (.region [
       (.p 48 (.bin .add) [.t 18, .c (.pv (.int .i64 1))], none),
       (.p 18 .id [.t 48], none)])))))
def irHistSearchMay : IR := (.seq (.region [
    (.p 6 .id [.c (.pv (.bool false))], none)])
 (.seq (.seq (.kill [0, 1, 2] [1000, 1001] (.region [
      (.p 8 .id [.t 1], none),
      (.p 9 .id [.t 2], none),
      (.p 10 (.bin .shr) [.t 8, .t 9], none),
      (.p 11 (.bin .and) [.t 10, .c (.pv (.int .u16 1))], none),
      (.p 12 (.bin .neq) [.t 11, .c (.pv (.int .u16 0))], none)]))
   (.cond (.t 12)
    (.seq (.kill [0] [1000, 1001] (.region [
        (.p 6 .id [.c (.pv (.bool false))], none)]))
     .ret)
    .skip))
  (.seq (.seq (.kill [0, 1, 2] [1000, 1001] (.region [
       (.p 13 .id [.t 0], none),
       (.p 14 .nilc [.t 13], none),
       (.p 15 (.fieldAddr 0) [.t 14], none),
       (.load 16 none (some 1000) (.t 15), none),
       (.p 17 (.len none) [.t 16], none),
       (.p 18 .id [.c (.pv (.int .i64 0))], none)]))
    (.block 0 (.loop (.kill [0, 1, 2, 17, 18] [1000, 1001] irHistSearchMay_L1))))
   (.seq (.kill [0] [1000, 1001] (.region [
       (.p 6 .id [.c (.pv (.bool true))], none)]))
    .ret))))
theorem okHistSearchMay : okFn Try.prog Try.f19 irHistSearchMay [.t 6] [] 3 = true := by kernel_rfl

-- hist.search.from
-- hist.search.from: args [49, 56]; lent [0, None]; rs [.t 4]; loops: L1 keeps [0, 3, 31, 32, 33] [3, 1000, 1001]
def cksHistSearchFrom_1 : List CK := [.i .u16, .b, .i .i64, .b, .i .i64, .b, .i .i64, .b, .i .i64, .b, .i .i64, .b, .i .i64, .b, .i .i64, .b, .i .i64, .b, .i .i64, .b, .i .i64, .b, .i .i64, .b, .i .i64, .b, .i .i64, .b, .i .i64, .b, .i .i64, .b, .i .i64]
def irHistSearchFrom_L1 : IR := (.seq (.kill [0, 3, 31, 32, 33] [3, 1000, 1001] (.region [
     (.p 34 (.bin .lss) [.t 33, .t 32], none)]))
  (.seq (.cond (.t 34)
    .skip
    (.exit 0))
   (.seq (.block 1 (.seq (.kill [0, 3, 31, 32, 33] [3, 1000, 1001] (.region [
         (.p 35 .id [.t 33], none),
         (.p 36 (.indexAddr none 9) [.t 31, .t 33], none),
         (.load 37 (some (9, true)) (some 9999) (.t 36), none),
         (.alloc 6 (.pagg [.int .i64 0, .int .i64 0, .int .i64 0, .int .i64 0, .int .i64 0, .int .i64 0, .bool false, .bool false, .int .i64 0]), none),
         (.p 5 .id [.t 35], none),
         (.store (some (9, true)) (some 6) (.t 6) (.t 37), none)]))
      (.seq (.seq (.kill [0, 3, 5, 6, 31, 32, 33] [3, 6, 1000, 1001] (.region [
           (.p 38 .id [.t 0], none),
           (.p 39 (.fieldAddr 0) [.t 3], none),
           (.load 40 none (some 3) (.t 39), none),
           (.p 41 .id [.t 5], none),
           (.call 42 19 [.t 38, .t 40, .t 41] [1000, 1001] [] [], none),
           (.p 43 (.un .not) [.t 42], none)]))
        (.cond (.t 43)
         (.exit 1)
         .skip))
       (.seq (.kill [0, 3, 5, 6, 31, 32, 33] [3, 6, 1000, 1001] (.region [
           (.p 45 (.fieldAddr 1) [.t 3], none),
           (.load 46 (some (32, false)) (some 3) (.t 45), none),
           (.p 47 (.fieldAddr 0) [.t 6], none),
           (.load 48 (some (4, false)) (some 6) (.t 47), none),
           (.call 49 20 [.t 46, .t 48] [] [] [], none),
           (.p 44 .id [.t 49], none),
           (.p 50 (.ext 0) [.t 44], none),
           (.p 51 (.ext 1) [.t 44], none),
           (.alloc 7 (.pagg [.bool false, .int .i64 0, .bool false, .int .i64 0, .bool false, .int .i64 0, .bool false, .int .i64 0, .bool false, .int .i64 0, .bool false, .int .i64 0, .bool false, .int .i64 0, .bool false, .int .i64 0, .bool false, .int .i64 0, .bool false, .int .i64 0, .bool false, .int .i64 0, .bool false, .int .i64 0, .bool false, .int .i64 0, .bool false, .int .i64 0, .bool false, .int .i64 0, .bool false, .int .i64 0]), none),
           (.alloc 8 (.pagg [.bool false, .int .i64 0]), none),
           (.store (some (32, true)) (some 7) (.t 7) (.t 50), none),
           (.store (some (2, true)) (some 8) (.t 8) (.t 51), none)]))
        (.seq (.seq (.kill [0, 3, 5, 6, 7, 8, 31, 32, 33] [3, 6, 7, 8, 1000, 1001] (.region [
             (.p 52 (.fieldAddr 6) [.t 6], none),
             (.load 53 none (some 6) (.t 52), none),
             (.p 54 .id [.t 53], none),
             (.load 55 (some (2, true)) (some 8) (.t 8), some (54, true)),
             (.p 56 (.fieldAddr 7) [.t 6], some (54, true)),
             (.load 57 (some (2, false)) (some 6) (.t 56), some (54, true)),
             (.p 58 (.seq true [.b, .i .i64]) [.t 55, .t 57], some (54, true)),
             (.p 59 .pick [.t 54, .t 58, .c (.pv (.bool false))], none)]))
          (.cond (.t 59)
           (.exit 1)
           .skip))
         (.seq (.kill [0, 3, 5, 7, 31, 32, 33] [3, 7, 1000, 1001] (.region [
             (.p 60 .id [.t 0], none),
             (.p 61 (.fieldAddr 0) [.t 3], none),
             (.load 62 none (some 3) (.t 61), none),
             (.p 63 .id [.t 5], none),
             (.p 64 (.bin .shl) [.c (.pv (.int .u16 1)), .t 63], none),
             (.p 65 (.bin .or) [.t 62, .t 64], none),
             (.load 66 (some (32, true)) (some 7) (.t 7), none),
             (.build 67 (.pagg [.int .u16 0, .bool false, .int .i64 0, .bool false, .int .i64 0, .bool false, .int .i64 0, .bool false, .int .i64 0, .bool false, .int .i64 0, .bool false, .int .i64 0, .bool false, .int .i64 0, .bool false, .int .i64 0, .bool false, .int .i64 0, .bool false, .int .i64 0, .bool false, .int .i64 0, .bool false, .int .i64 0, .bool false, .int .i64 0, .bool false, .int .i64 0, .bool false, .int .i64 0, .bool false, .int .i64 0]) [(0, 1, .t 65), (1, 32, .t 66)], none),
             (.call 68 16 [.t 60, .t 67] [1000, 1001] [] [], none)]))
          (.cond (.t 68)
           (.seq (.kill [0] [1000, 1001] (.region [
               (.p 4 .id [.c (.pv (.bool true))], none)]))
            .ret)
           .skip)))))))
    (.kill [0, 3, 31, 32, 33] [3, 1000, 1001] (.region [
       (.p 69 (.bin .add) [.t 33, .c (.pv (.int .i64 1))], none),
       (.p 33 .id [.t 69], none)])))))
def irHistSearchFrom : IR := (.seq (.region [
    (.box 3 (.t 1), none),
    (.p 4 .id [.c (.pv (.bool false))], none)])
 (.seq (.seq (.kill [0, 3] [3, 1000, 1001] (.region [
      (.p 9 .id [.t 0], none),
      (.p 10 .nilc [.t 9], none),
      (.p 11 (.fieldAddr 1) [.t 10], none),
      (.load 12 none (some 1000) (.t 11), none),
      (.p 13 (.fieldAddr 0) [.t 3], none),
      (.load 14 none (some 3) (.t 13), none),
      (.p 15 (.bin .andNot) [.t 12, .t 14], none),
      (.p 16 (.bin .eql) [.t 15, .c (.pv (.int .u16 0))], none)]))
   (.cond (.t 16)
    (.seq (.kill [0] [1000, 1001] (.region [
        (.p 4 .id [.c (.pv (.bool true))], none)]))
     .ret)
    .skip))
  (.seq (.seq (.kill [0, 3] [3, 1000, 1001] (.region [
       (.p 17 .id [.t 0], none),
       (.p 18 .nilc [.t 17], none),
       (.p 19 (.fieldAddr 2) [.t 18], none),
       (.load 20 none (some 1000) (.t 19), none),
       (.load 21 (some (33, true)) (some 3) (.t 3), none),
       (.mlook 22 false true cksHistSearchFrom_1 (.bool false) (some 1001) (.t 20) (.t 21), none)]))
    (.cond (.t 22)
     (.seq (.kill [0] [1000, 1001] (.region [
         (.p 4 .id [.c (.pv (.bool false))], none)]))
      .ret)
     .skip))
   (.seq (.kill [0, 3] [3, 1000, 1001] (.region [
       (.p 23 .id [.t 0], none),
       (.p 24 .nilc [.t 23], none),
       (.p 25 (.fieldAddr 2) [.t 24], none),
       (.load 26 none (some 1000) (.t 25), none),
       (.load 27 (some (33, true)) (some 3) (.t 3), none),
       (.mupd true cksHistSearchFrom_1 (some 1001) (.t 26) (.t 27) (.c (.pv (.bool true))), none)]))
    (.seq (.seq (.kill [0, 3] [3, 1000, 1001] (.region [
         (.p 28 .id [.t 0], none),
         (.p 29 .nilc [.t 28], none),
         (.p 30 (.fieldAddr 0) [.t 29], none),
         (.load 31 none (some 1000) (.t 30), none),
         (.p 32 (.len none) [.t 31], none),
         (.p 33 .id [.c (.pv (.int .i64 0))], none)]))
      (.block 0 (.loop (.kill [0, 3, 31, 32, 33] [3, 1000, 1001] irHistSearchFrom_L1))))
     (.seq (.kill [0] [1000, 1001] (.region [
         (.p 4 .id [.c (.pv (.bool false))], none)]))
      .ret))))))
theorem okHistSearchFrom : okFn Try.prog Try.f16 irHistSearchFrom [.t 4] [] 2 = true := by kernel_rfl

-- hist.right
-- hist.right: args [40]; lent []; rs [.t 2]; loops: 
def irHistRight : IR := (.seq (.region [
    (.box 1 (.t 0), none),
    (.p 2 .id [.c (.pv (.bool false))], none)])
 (.seq (.kill [1] [1] (.region [
     (.p 3 (.fieldAddr 0) [.t 1], none),
     (.p 4 (.fieldAddr 0) [.t 3], none),
     (.load 5 none (some 1) (.t 4), none),
     (.p 6 (.bin .geq) [.t 5, .c (.pv (.int .i64 1))], none),
     (.p 7 .id [.t 6], none),
     (.p 8 (.fieldAddr 0) [.t 1], some (7, true)),
     (.p 9 (.fieldAddr 0) [.t 8], some (7, true)),
     (.load 10 none (some 1) (.t 9), some (7, true)),
     (.p 11 (.bin .leq) [.t 10, .c (.pv (.int .i64 5))], some (7, true)),
     (.p 12 .pick [.t 7, .t 11, .c (.pv (.bool false))], none),
     (.p 13 .id [.t 12], none),
     (.p 14 (.fieldAddr 0) [.t 1], some (13, true)),
     (.p 15 (.fieldAddr 1) [.t 14], some (13, true)),
     (.load 16 none (some 1) (.t 15), some (13, true)),
     (.p 17 (.bin .geq) [.t 16, .c (.pv (.int .i64 0))], some (13, true)),
     (.p 18 .pick [.t 13, .t 17, .c (.pv (.bool false))], none),
     (.p 19 .id [.t 18], none),
     (.p 20 (.fieldAddr 0) [.t 1], some (19, true)),
     (.p 21 (.fieldAddr 1) [.t 20], some (19, true)),
     (.load 22 none (some 1) (.t 21), some (19, true)),
     (.p 23 (.bin .lss) [.t 22, .c (.pv (.int .i64 16))], some (19, true)),
     (.p 24 .pick [.t 19, .t 23, .c (.pv (.bool false))], none),
     (.p 25 .id [.t 24], none),
     (.p 26 (.fieldAddr 6) [.t 1], some (25, true)),
     (.load 27 none (some 1) (.t 26), some (25, true)),
     (.p 28 (.un .not) [.t 27], some (25, true)),
     (.p 29 .id [.t 28], some (25, true)),
     (.p 30 (.fieldAddr 5) [.t 1], some (29, false)),
     (.load 31 none (some 1) (.t 30), some (29, false)),
     (.p 32 (.fieldAddr 4) [.t 1], some (29, false)),
     (.load 33 none (some 1) (.t 32), some (29, false)),
     (.p 34 (.bin .geq) [.t 31, .t 33], some (29, false)),
     (.p 35 .pick [.t 29, .c (.pv (.bool true)), .t 34], some (25, true)),
     (.p 36 .pick [.t 25, .t 35, .c (.pv (.bool false))], none),
     (.p 2 .id [.t 36], none)]))
  .ret))
theorem okHistRight : okFn Try.prog Try.f15 irHistRight [.t 2] [] 1 = true := by kernel_rfl

-- hist.Linear
-- hist.Linear: args [24, 25]; lent []; rs [.t 4, .t 5]; loops: L1 keeps [2, 6, 16, 17, 18] [2, 13, 15]
def cksHistLinear_1 : List CK := [.i .u16, .b, .i .i64, .b, .i .i64, .b, .i .i64, .b, .i .i64, .b, .i .i64, .b, .i .i64, .b, .i .i64, .b, .i .i64, .b, .i .i64, .b, .i .i64, .b, .i .i64, .b, .i .i64, .b, .i .i64, .b, .i .i64, .b, .i .i64, .b, .i .i64]
def irHistLinear_L1 : IR := (.seq (.kill [2, 6, 16, 17, 18] [2, 13, 15] (.region [
     (.p 19 (.bin .lss) [.t 18, .t 17], none)]))
  (.seq (.cond (.t 19)
    .skip
    (.exit 0))
   (.seq (.block 1 (.seq (.kill [2, 6, 16, 17, 18] [2, 13, 15] (.region [
         (.p 20 .id [.t 18], none),
         (.p 21 (.indexAddr none 9) [.t 16, .t 18], none),
         (.load 22 (some (9, true)) (some 9999) (.t 21), none),
         (.alloc 8 (.pagg [.int .i64 0, .int .i64 0, .int .i64 0, .int .i64 0, .int .i64 0, .int .i64 0, .bool false, .bool false, .int .i64 0]), none),
         (.p 7 .id [.t 20], none),
         (.store (some (9, true)) (some 8) (.t 8) (.t 22), none)]))
      (.seq (.seq (.kill [2, 6, 7, 8, 16, 17, 18] [2, 8, 13, 15] (.region [
           (.load 23 (some (9, true)) (some 8) (.t 8), none),
           (.call 24 15 [.t 23] [] [] [], none),
           (.p 25 (.un .not) [.t 24], none)]))
        (.cond (.t 25)
         (.seq (.kill [] [] (.region [
             (.p 4 .id [.c (.pv (.bool false))], none),
             (.p 5 .id [.c (.pv (.int .i64 15))], none)]))
          .ret)
         .skip))
       (.seq (.kill [2, 6, 7, 8, 16, 17, 18] [2, 8, 13, 15] (.region [
           (.p 26 (.fieldAddr 6) [.t 8], none),
           (.load 27 none (some 8) (.t 26), none)]))
        (.cond (.t 27)
         (.kill [2, 6, 7, 16, 17, 18] [2, 13, 15] (.region [
            (.p 28 .id [.t 6], none),
            (.p 29 .nilc [.t 28], none),
            (.p 30 (.fieldAddr 1) [.t 29], none),
            (.load 31 none (some 15) (.t 30), none),
            (.p 32 .id [.t 7], none),
            (.p 33 (.bin .shl) [.c (.pv (.int .u16 1)), .t 32], none),
            (.p 34 (.bin .or) [.t 31, .t 33], none),
            (.p 35 .nilc [.t 28], none),
            (.p 36 (.fieldAddr 1) [.t 35], none),
            (.store none (some 15) (.t 36) (.t 34), none)]))
         .skip)))))
    (.kill [2, 6, 16, 17, 18] [2, 13, 15] (.region [
       (.p 37 (.bin .add) [.t 18, .c (.pv (.int .i64 1))], none),
       (.p 18 .id [.t 37], none)])))))
def irHistLinear : IR := (.seq (.region [
    (.box 2 (.t 0), none),
    (.p 4 .id [.c (.pv (.bool false))], none),
    (.p 5 .id [.c (.pv (.int .i64 0))], none)])
 (.seq (.seq (.kill [1, 2] [2] (.region [
      (.p 9 .id [.t 1], none),
      (.p 10 (.len none) [.t 9], none),
      (.p 11 (.bin .gtr) [.t 10, .c (.pv (.int .i64 12))], none)]))
   (.cond (.t 11)
    (.seq (.kill [] [] (.region [
        (.p 4 .id [.c (.pv (.bool false))], none),
        (.p 5 .id [.c (.pv (.int .i64 4))], none)]))
     .ret)
    .skip))
  (.seq (.kill [1, 2] [2] (.region [
      (.p 12 .id [.t 1], none),
      (.mkmap 13 true cksHistLinear_1, none),
      (.build 14 (.agg [.os 40 9 [], .pv (.int .u16 0), .pv .nilm]) [(0, 1, .t 12), (2, 1, .t 13)], none),
      (.boxmv 15 14, none),
      (.p 6 .id [.t 15], none)]))
   (.seq (.seq (.kill [1, 2, 6] [2, 13, 15] (.region [
        (.mv 16 1, none),
        (.p 17 (.len none) [.t 16], none),
        (.p 18 .id [.c (.pv (.int .i64 0))], none)]))
     (.block 0 (.loop (.kill [2, 6, 16, 17, 18] [2, 13, 15] irHistLinear_L1))))
    (.seq (.kill [2, 6] [2, 13, 15] (.region [
        (.p 38 .id [.t 6], none),
        (.load 39 (some (32, true)) (some 2) (.t 2), none),
        (.build 40 (.pagg [.int .u16 0, .bool false, .int .i64 0, .bool false, .int .i64 0, .bool false, .int .i64 0, .bool false, .int .i64 0, .bool false, .int .i64 0, .bool false, .int .i64 0, .bool false, .int .i64 0, .bool false, .int .i64 0, .bool false, .int .i64 0, .bool false, .int .i64 0, .bool false, .int .i64 0, .bool false, .int .i64 0, .bool false, .int .i64 0, .bool false, .int .i64 0, .bool false, .int .i64 0, .bool false, .int .i64 0]) [(1, 32, .t 39)], none),
        (.call 41 16 [.t 38, .t 40] [15, 13] [] [], none),
        (.p 4 .id [.t 41], none),
        (.p 5 .id [.c (.pv (.int .i64 0))], none)]))
     .ret)))))
theorem okHistLinear : okFn Try.prog Try.f10 irHistLinear [.t 4, .t 5] [] 2 = true := by kernel_rfl

-- hist.Explains
-- hist.Explains: args [24, 25, 47]; lent []; rs [.t 6]; loops: L1 keeps [1, 3, 7, 8, 28, 29, 30] [3, 27]; L2 keeps [8, 79, 80, 81] []
def irHistExplains_L1 : IR := (.seq (.kill [1, 3, 7, 8, 28, 29, 30] [3, 27] (.region [
     (.p 31 (.bin .lss) [.t 30, .t 29], none)]))
  (.seq (.cond (.t 31)
    .skip
    (.exit 0))
   (.seq (.block 1 (.seq (.kill [1, 3, 7, 8, 28, 29, 30] [3, 27] (.region [
         (.p 32 (.indexAddr none 1) [.t 28, .t 30], none),
         (.load 33 none (some 9999) (.t 32), none),
         (.p 10 .id [.t 33], none)]))
      (.seq (.seq (.kill [1, 3, 7, 8, 10, 28, 29, 30] [3, 27] (.region [
           (.p 34 .id [.t 10], none),
           (.p 35 (.bin .lss) [.t 34, .c (.pv (.int .i64 0))], none),
           (.p 36 .id [.t 35], none),
           (.p 37 .id [.t 10], some (36, false)),
           (.p 38 .id [.t 1], some (36, false)),
           (.p 39 (.len none) [.t 38], some (36, false)),
           (.p 40 (.bin .geq) [.t 37, .t 39], some (36, false)),
           (.p 41 .pick [.t 36, .c (.pv (.bool true)), .t 40], none),
           (.p 42 .id [.t 41], none),
           (.p 43 .id [.t 7], some (42, false)),
           (.p 44 .id [.t 8], some (42, false)),
           (.p 45 .id [.t 10], some (42, false)),
           (.call 46 19 [.t 43, .t 44, .t 45] [27] [] [], some (42, false)),
           (.p 47 (.un .not) [.t 46], some (42, false)),
           (.p 48 .pick [.t 42, .c (.pv (.bool true)), .t 47], none)]))
        (.cond (.t 48)
         (.seq (.kill [] [] (.region [
             (.p 6 .id [.c (.pv (.bool false))], none)]))
          .ret)
         .skip))
       (.seq (.kill [1, 3, 7, 8, 10, 28, 29, 30] [3, 27] (.region [
           (.load 50 (some (32, true)) (some 3) (.t 3), none),
           (.p 51 .id [.t 1], none),
           (.p 52 .id [.t 10], none),
           (.p 53 (.indexAddr none 9) [.t 51, .t 52], none),
           (.p 54 (.fieldAddr 0) [.t 53], none),
           (.load 55 (some (4, false)) (some 9999) (.t 54), none),
           (.call 56 20 [.t 50, .t 55] [] [] [], none),
           (.p 49 .id [.t 56], none),
           (.p 57 (.ext 0) [.t 49], none),
           (.p 58 (.ext 1) [.t 49], none),
           (.alloc 11 (.pagg [.bool false, .int .i64 0, .bool false, .int .i64 0, .bool false, .int .i64 0, .bool false, .int .i64 0, .bool false, .int .i64 0, .bool false, .int .i64 0, .bool false, .int .i64 0, .bool false, .int .i64 0, .bool false, .int .i64 0, .bool false, .int .i64 0, .bool false, .int .i64 0, .bool false, .int .i64 0, .bool false, .int .i64 0, .bool false, .int .i64 0, .bool false, .int .i64 0, .bool false, .int .i64 0]), none),
           (.alloc 12 (.pagg [.bool false, .int .i64 0]), none),
           (.store (some (32, true)) (some 11) (.t 11) (.t 57), none),
           (.store (some (2, true)) (some 12) (.t 12) (.t 58), none)]))
        (.seq (.seq (.kill [1, 3, 7, 8, 10, 11, 12, 28, 29, 30] [3, 11, 12, 27] (.region [
             (.p 59 .id [.t 1], none),
             (.p 60 .id [.t 10], none),
             (.p 61 (.indexAddr none 9) [.t 59, .t 60], none),
             (.p 62 (.fieldAddr 6) [.t 61], none),
             (.load 63 none (some 9999) (.t 62), none),
             (.p 64 .id [.t 63], none),
             (.load 65 (some (2, true)) (some 12) (.t 12), some (64, true)),
             (.p 66 .id [.t 1], some (64, true)),
             (.p 67 .id [.t 10], some (64, true)),
             (.p 68 (.indexAddr none 9) [.t 66, .t 67], some (64, true)),
             (.p 69 (.fieldAddr 7) [.t 68], some (64, true)),
             (.load 70 (some (2, false)) (some 9999) (.t 69), some (64, true)),
             (.p 71 (.seq true [.b, .i .i64]) [.t 65, .t 70], some (64, true)),
             (.p 72 .pick [.t 64, .t 71, .c (.pv (.bool false))], none)]))
          (.cond (.t 72)
           (.seq (.kill [] [] (.region [
               (.p 6 .id [.c (.pv (.bool false))], none)]))
            .ret)
           .skip))
         (.seq (.kill [1, 3, 7, 8, 10, 11, 28, 29, 30] [3, 11, 27] (.region [
             (.load 73 (some (32, true)) (some 11) (.t 11), none),
             (.store (some (32, true)) (some 3) (.t 3) (.t 73), none)]))
          (.kill [1, 3, 7, 8, 10, 28, 29, 30] [3, 27] (.region [
             (.p 74 .id [.t 8], none),
             (.p 75 .id [.t 10], none),
             (.p 76 (.bin .shl) [.c (.pv (.int .u16 1)), .t 75], none),
             (.p 77 (.bin .or) [.t 74, .t 76], none),
             (.p 8 .id [.t 77], none)]))))))))
    (.kill [1, 3, 7, 8, 28, 29, 30] [3, 27] (.region [
       (.p 78 (.bin .add) [.t 30, .c (.pv (.int .i64 1))], none),
       (.p 30 .id [.t 78], none)])))))
def irHistExplains_L2 : IR := (.seq (.kill [8, 79, 80, 81] [] (.region [
     (.p 82 (.bin .lss) [.t 81, .t 80], none)]))
  (.seq (.cond (.t 82)
    .skip
    (.exit 2))
   (.seq (.block 3 (.seq (.kill [8, 79, 80, 81] [] (.region [
         (.p 83 .id [.t 81], none),
         (.p 84 (.indexAddr none 9) [.t 79, .t 81], none),
         (.load 85 (some (9, true)) (some 9999) (.t 84), none),
         (.alloc 14 (.pagg [.int .i64 0, .int .i64 0, .int .i64 0, .int .i64 0, .int .i64 0, .int .i64 0, .bool false, .bool false, .int .i64 0]), none),
         (.p 13 .id [.t 83], none),
         (.store (some (9, true)) (some 14) (.t 14) (.t 85), none)]))
      (.seq (.kill [8, 13, 14, 79, 80, 81] [14] (.region [
          (.p 86 (.fieldAddr 6) [.t 14], none),
          (.load 87 none (some 14) (.t 86), none),
          (.p 88 .id [.t 87], none),
          (.p 89 .id [.t 8], some (88, true)),
          (.p 90 .id [.t 13], some (88, true)),
          (.p 91 (.bin .shr) [.t 89, .t 90], some (88, true)),
          (.p 92 (.bin .and) [.t 91, .c (.pv (.int .u16 1))], some (88, true)),
          (.p 93 (.bin .eql) [.t 92, .c (.pv (.int .u16 0))], some (88, true)),
          (.p 94 .pick [.t 88, .t 93, .c (.pv (.bool false))], none)]))
       (.cond (.t 94)
        (.seq (.kill [] [] (.region [
            (.p 6 .id [.c (.pv (.bool false))], none)]))
         .ret)
        .skip))))
    (.kill [8, 79, 80, 81] [] (.region [
       (.p 95 (.bin .add) [.t 81, .c (.pv (.int .i64 1))], none),
       (.p 81 .id [.t 95], none)])))))
def irHistExplains : IR := (.seq (.region [
    (.box 3 (.t 0), none),
    (.p 6 .id [.c (.pv (.bool false))], none)])
 (.seq (.seq (.kill [1, 2, 3] [3] (.region [
      (.p 15 .id [.t 1], none),
      (.p 16 (.len none) [.t 15], none),
      (.p 17 (.bin .gtr) [.t 16, .c (.pv (.int .i64 12))], none),
      (.p 18 .id [.t 17], none),
      (.p 19 .id [.t 2], some (18, false)),
      (.p 20 (.len none) [.t 19], some (18, false)),
      (.p 21 .id [.t 1], some (18, false)),
      (.p 22 (.len none) [.t 21], some (18, false)),
      (.p 23 (.bin .gtr) [.t 20, .t 22], some (18, false)),
      (.p 24 .pick [.t 18, .c (.pv (.bool true)), .t 23], none)]))
   (.cond (.t 24)
    (.seq (.kill [] [] (.region [
        (.p 6 .id [.c (.pv (.bool false))], none)]))
     .ret)
    .skip))
  (.seq (.kill [1, 2, 3] [3] (.region [
      (.p 25 .id [.t 1], none),
      (.build 26 (.pagg [.sl 9 [], .int .u16 0, .nilm]) [(0, 1, .t 25)], none),
      (.box 27 (.t 26), none),
      (.p 7 .id [.t 27], none)]))
   (.seq (.kill [1, 2, 3, 7] [3, 27] (.region [
       (.p 8 .id [.c (.pv (.int .u16 0))], none)]))
    (.seq (.seq (.kill [1, 2, 3, 7, 8] [3, 27] (.region [
         (.mv 28 2, none),
         (.p 29 (.len none) [.t 28], none),
         (.p 30 .id [.c (.pv (.int .i64 0))], none)]))
      (.block 0 (.loop (.kill [1, 3, 7, 8, 28, 29, 30] [3, 27] irHistExplains_L1))))
     (.seq (.seq (.kill [1, 8] [] (.region [
          (.mv 79 1, none),
          (.p 80 (.len none) [.t 79], none),
          (.p 81 .id [.c (.pv (.int .i64 0))], none)]))
       (.block 2 (.loop (.kill [8, 79, 80, 81] [] irHistExplains_L2))))
      (.seq (.kill [] [] (.region [
          (.p 6 .id [.c (.pv (.bool true))], none)]))
       .ret)))))))
theorem okHistExplains : okFn Try.prog Try.f13 irHistExplains [.t 6] [] 3 = true := by kernel_rfl

-- consistoryref26.Right
-- consistoryref26.Right: args [40]; lent []; rs [.t 2]; loops: 
def irRef26Right : IR := (.seq (.region [
    (.box 1 (.t 0), none),
    (.p 2 .id [.c (.pv (.bool false))], none)])
 (.seq (.kill [1] [1] (.region [
     (.p 3 (.fieldAddr 0) [.t 1], none),
     (.p 4 (.fieldAddr 0) [.t 3], none),
     (.load 5 none (some 1) (.t 4), none),
     (.p 6 (.bin .geq) [.t 5, .c (.pv (.int .i64 1))], none),
     (.p 7 .id [.t 6], none),
     (.p 8 (.fieldAddr 0) [.t 1], some (7, true)),
     (.p 9 (.fieldAddr 0) [.t 8], some (7, true)),
     (.load 10 none (some 1) (.t 9), some (7, true)),
     (.p 11 (.bin .leq) [.t 10, .c (.pv (.int .i64 5))], some (7, true)),
     (.p 12 .pick [.t 7, .t 11, .c (.pv (.bool false))], none),
     (.p 13 .id [.t 12], none),
     (.p 14 (.fieldAddr 0) [.t 1], some (13, true)),
     (.p 15 (.fieldAddr 1) [.t 14], some (13, true)),
     (.load 16 none (some 1) (.t 15), some (13, true)),
     (.p 17 (.bin .geq) [.t 16, .c (.pv (.int .i64 0))], some (13, true)),
     (.p 18 .pick [.t 13, .t 17, .c (.pv (.bool false))], none),
     (.p 19 .id [.t 18], none),
     (.p 20 (.fieldAddr 0) [.t 1], some (19, true)),
     (.p 21 (.fieldAddr 1) [.t 20], some (19, true)),
     (.load 22 none (some 1) (.t 21), some (19, true)),
     (.p 23 (.bin .leq) [.t 22, .c (.pv (.int .i64 15))], some (19, true)),
     (.p 24 .pick [.t 19, .t 23, .c (.pv (.bool false))], none),
     (.p 25 .id [.t 24], none),
     (.p 26 (.fieldAddr 6) [.t 1], some (25, true)),
     (.load 27 none (some 1) (.t 26), some (25, true)),
     (.p 28 (.un .not) [.t 27], some (25, true)),
     (.p 29 .id [.t 28], some (25, true)),
     (.p 30 (.fieldAddr 5) [.t 1], some (29, false)),
     (.load 31 none (some 1) (.t 30), some (29, false)),
     (.p 32 (.fieldAddr 4) [.t 1], some (29, false)),
     (.load 33 none (some 1) (.t 32), some (29, false)),
     (.p 34 (.bin .geq) [.t 31, .t 33], some (29, false)),
     (.p 35 .pick [.t 29, .c (.pv (.bool true)), .t 34], some (25, true)),
     (.p 36 .pick [.t 25, .t 35, .c (.pv (.bool false))], none),
     (.p 2 .id [.t 36], none)]))
  .ret))
theorem okRef26Right : okFn Try.prog Try.f17 irRef26Right [.t 2] [] 1 = true := by kernel_rfl

-- consistoryref26.in
-- consistoryref26.in: args [47, 3]; lent []; rs [.t 4]; loops: L1 keeps [0, 1, 5] []
def irRef26In_L1 : IR := (.seq (.seq (.kill [0, 1, 5] [] (.region [
      (.p 6 .id [.t 5], none),
      (.p 7 .id [.t 0], none),
      (.p 8 (.len none) [.t 7], none),
      (.p 9 (.bin .lss) [.t 6, .t 8], none)]))
   (.cond (.t 9)
    .skip
    (.exit 0)))
  (.seq (.block 1 (.seq (.kill [0, 1, 5] [] (.region [
        (.p 12 .id [.t 0], none),
        (.p 13 .id [.t 5], none),
        (.p 14 (.indexAddr none 1) [.t 12, .t 13], none),
        (.load 15 none (some 9999) (.t 14), none),
        (.p 16 .id [.t 1], none),
        (.p 17 (.bin .eql) [.t 15, .t 16], none)]))
     (.cond (.t 17)
      (.seq (.kill [] [] (.region [
          (.p 4 .id [.c (.pv (.bool true))], none)]))
       .ret)
      .skip)))
   (.kill [0, 1, 5] [] (.region [
      (.p 10 .id [.t 5], none),
      (.p 11 (.bin .add) [.t 10, .c (.pv (.int .i64 1))], none),
      (.p 5 .id [.t 11], none)]))))
def irRef26In : IR := (.seq (.region [
    (.p 4 .id [.c (.pv (.bool false))], none)])
 (.seq (.seq (.kill [0, 1] [] (.region [
      (.p 5 .id [.c (.pv (.int .i64 0))], none)]))
   (.block 0 (.loop (.kill [0, 1, 5] [] irRef26In_L1))))
  (.seq (.kill [] [] (.region [
      (.p 4 .id [.c (.pv (.bool false))], none)]))
   .ret)))
theorem okRef26In : okFn Try.prog Try.f22 irRef26In [.t 4] [] 2 = true := by kernel_rfl

-- consistoryref26.May
-- consistoryref26.May: args [25, 47, 3]; lent []; rs [.t 6]; loops: L1 keeps [0, 1, 2, 7] []
def irRef26May_L1 : IR := (.seq (.seq (.kill [0, 1, 2, 7] [] (.region [
      (.p 21 .id [.t 7], none),
      (.p 22 .id [.t 0], none),
      (.p 23 (.len none) [.t 22], none),
      (.p 24 (.bin .lss) [.t 21, .t 23], none)]))
   (.cond (.t 24)
    .skip
    (.exit 0)))
  (.seq (.block 1 (.seq (.kill [0, 1, 2, 7] [] (.region [
        (.p 27 .id [.t 7], none),
        (.p 28 .id [.t 2], none),
        (.p 29 (.bin .neq) [.t 27, .t 28], none),
        (.p 30 .id [.t 29], none),
        (.p 31 .id [.t 1], some (30, true)),
        (.p 32 .id [.t 7], some (30, true)),
        (.call 33 22 [.t 31, .t 32] [] [] [], some (30, true)),
        (.p 34 (.un .not) [.t 33], some (30, true)),
        (.p 35 .pick [.t 30, .t 34, .c (.pv (.bool false))], none),
        (.p 36 .id [.t 35], none),
        (.p 37 .id [.t 0], some (36, true)),
        (.p 38 .id [.t 7], some (36, true)),
        (.p 39 (.indexAddr none 9) [.t 37, .t 38], some (36, true)),
        (.p 40 (.fieldAddr 6) [.t 39], some (36, true)),
        (.load 41 none (some 9999) (.t 40), some (36, true)),
        (.p 42 .pick [.t 36, .t 41, .c (.pv (.bool false))], none),
        (.p 43 .id [.t 42], none),
        (.p 44 .id [.t 0], some (43, true)),
        (.p 45 .id [.t 7], some (43, true)),
        (.p 46 (.indexAddr none 9) [.t 44, .t 45], some (43, true)),
        (.p 47 (.fieldAddr 5) [.t 46], some (43, true)),
        (.load 48 none (some 9999) (.t 47), some (43, true)),
        (.p 49 .id [.t 0], some (43, true)),
        (.p 50 .id [.t 2], some (43, true)),
        (.p 51 (.indexAddr none 9) [.t 49, .t 50], some (43, true)),
        (.p 52 (.fieldAddr 4) [.t 51], some (43, true)),
        (.load 53 none (some 9999) (.t 52), some (43, true)),
        (.p 54 (.bin .lss) [.t 48, .t 53], some (43, true)),
        (.p 55 .pick [.t 43, .t 54, .c (.pv (.bool false))], none)]))
     (.cond (.t 55)
      (.seq (.kill [] [] (.region [
          (.p 6 .id [.c (.pv (.bool false))], none)]))
       .ret)
      .skip)))
   (.kill [0, 1, 2, 7] [] (.region [
      (.p 25 .id [.t 7], none),
      (.p 26 (.bin .add) [.t 25, .c (.pv (.int .i64 1))], none),
      (.p 7 .id [.t 26], none)]))))
def irRef26May : IR := (.seq (.region [
    (.p 6 .id [.c (.pv (.bool false))], none)])
 (.seq (.seq (.kill [0, 1, 2] [] (.region [
      (.p 8 .id [.t 2], none),
      (.p 9 (.bin .lss) [.t 8, .c (.pv (.int .i64 0))], none),
      (.p 10 .id [.t 9], none),
      (.p 11 .id [.t 2], some (10, false)),
      (.p 12 .id [.t 0], some (10, false)),
      (.p 13 (.len none) [.t 12], some (10, false)),
      (.p 14 (.bin .geq) [.t 11, .t 13], some (10, false)),
      (.p 15 .pick [.t 10, .c (.pv (.bool true)), .t 14], none),
      (.p 16 .id [.t 15], none),
      (.p 17 .id [.t 1], some (16, false)),
      (.p 18 .id [.t 2], some (16, false)),
      (.call 19 22 [.t 17, .t 18] [] [] [], some (16, false)),
      (.p 20 .pick [.t 16, .c (.pv (.bool true)), .t 19], none)]))
   (.cond (.t 20)
    (.seq (.kill [] [] (.region [
        (.p 6 .id [.c (.pv (.bool false))], none)]))
     .ret)
    .skip))
  (.seq (.seq (.kill [0, 1, 2] [] (.region [
       (.p 7 .id [.c (.pv (.int .i64 0))], none)]))
    (.block 0 (.loop (.kill [0, 1, 2, 7] [] irRef26May_L1))))
   (.seq (.kill [] [] (.region [
       (.p 6 .id [.c (.pv (.bool true))], none)]))
    .ret))))
theorem okRef26May : okFn Try.prog Try.f21 irRef26May [.t 6] [] 3 = true := by kernel_rfl

-- consistoryref26.Explains
-- consistoryref26.Explains: args [24, 25, 47]; lent []; rs [.t 6]; loops: L1 keeps [1, 2, 3, 7, 8] [3]; L2 keeps [1, 7, 12] []
def irRef26Explains_L1 : IR := (.seq (.seq (.kill [1, 2, 3, 7, 8] [3] (.region [
      (.p 13 .id [.t 8], none),
      (.p 14 .id [.t 2], none),
      (.p 15 (.len none) [.t 14], none),
      (.p 16 (.bin .lss) [.t 13, .t 15], none)]))
   (.cond (.t 16)
    .skip
    (.exit 0)))
  (.seq (.block 1 (.seq (.kill [1, 2, 3, 7, 8] [3] (.region [
        (.p 19 .id [.t 2], none),
        (.p 20 .id [.t 8], none),
        (.p 21 (.indexAddr none 1) [.t 19, .t 20], none),
        (.load 22 none (some 9999) (.t 21), none),
        (.p 9 .id [.t 22], none)]))
     (.seq (.seq (.kill [1, 2, 3, 7, 8, 9] [3] (.region [
          (.p 23 .id [.t 1], none),
          (.p 24 .id [.t 7], none),
          (.p 25 .id [.t 9], none),
          (.call 26 21 [.t 23, .t 24, .t 25] [] [] [], none),
          (.p 27 (.un .not) [.t 26], none)]))
       (.cond (.t 27)
        (.seq (.kill [] [] (.region [
            (.p 6 .id [.c (.pv (.bool false))], none)]))
         .ret)
        .skip))
      (.seq (.kill [1, 2, 3, 7, 8, 9] [3] (.region [
          (.load 29 (some (32, true)) (some 3) (.t 3), none),
          (.p 30 .id [.t 1], none),
          (.p 31 .id [.t 9], none),
          (.p 32 (.indexAddr none 9) [.t 30, .t 31], none),
          (.p 33 (.fieldAddr 0) [.t 32], none),
          (.load 34 (some (4, false)) (some 9999) (.t 33), none),
          (.call 35 12 [.t 29, .t 34] [] [] [], none),
          (.p 28 .id [.t 35], none),
          (.p 36 (.ext 0) [.t 28], none),
          (.p 37 (.ext 1) [.t 28], none),
          (.alloc 10 (.pagg [.bool false, .int .i64 0, .bool false, .int .i64 0, .bool false, .int .i64 0, .bool false, .int .i64 0, .bool false, .int .i64 0, .bool false, .int .i64 0, .bool false, .int .i64 0, .bool false, .int .i64 0, .bool false, .int .i64 0, .bool false, .int .i64 0, .bool false, .int .i64 0, .bool false, .int .i64 0, .bool false, .int .i64 0, .bool false, .int .i64 0, .bool false, .int .i64 0, .bool false, .int .i64 0]), none),
          (.alloc 11 (.pagg [.bool false, .int .i64 0]), none),
          (.store (some (32, true)) (some 10) (.t 10) (.t 36), none),
          (.store (some (2, true)) (some 11) (.t 11) (.t 37), none)]))
       (.seq (.seq (.kill [1, 2, 3, 7, 8, 9, 10, 11] [3, 10, 11] (.region [
            (.p 38 .id [.t 1], none),
            (.p 39 .id [.t 9], none),
            (.p 40 (.indexAddr none 9) [.t 38, .t 39], none),
            (.p 41 (.fieldAddr 6) [.t 40], none),
            (.load 42 none (some 9999) (.t 41), none),
            (.p 43 .id [.t 42], none),
            (.load 44 (some (2, true)) (some 11) (.t 11), some (43, true)),
            (.p 45 .id [.t 1], some (43, true)),
            (.p 46 .id [.t 9], some (43, true)),
            (.p 47 (.indexAddr none 9) [.t 45, .t 46], some (43, true)),
            (.p 48 (.fieldAddr 7) [.t 47], some (43, true)),
            (.load 49 (some (2, false)) (some 9999) (.t 48), some (43, true)),
            (.p 50 (.seq true [.b, .i .i64]) [.t 44, .t 49], some (43, true)),
            (.p 51 .pick [.t 43, .t 50, .c (.pv (.bool false))], none)]))
         (.cond (.t 51)
          (.seq (.kill [] [] (.region [
              (.p 6 .id [.c (.pv (.bool false))], none)]))
           .ret)
          .skip))
        (.seq (.kill [1, 2, 3, 7, 8, 9, 10] [3, 10] (.region [
            (.load 52 (some (32, true)) (some 10) (.t 10), none),
            (.store (some (32, true)) (some 3) (.t 3) (.t 52), none)]))
         (.kill [1, 2, 3, 7, 8, 9] [3] (.region [
            (.mv 53 7, none),
            (.p 54 .id [.t 9], none),
            (.bslice 55 3 1 1 [.int .i64 0] [(0, .t 54)], none),
            (.app 56 3 1 53 none (.t 55), none),
            (.mv 7 56, none)]))))))))
   (.kill [1, 2, 3, 7, 8] [3] (.region [
      (.p 17 .id [.t 8], none),
      (.p 18 (.bin .add) [.t 17, .c (.pv (.int .i64 1))], none),
      (.p 8 .id [.t 18], none)]))))
def irRef26Explains_L2 : IR := (.seq (.seq (.kill [1, 7, 12] [] (.region [
      (.p 57 .id [.t 12], none),
      (.p 58 .id [.t 1], none),
      (.p 59 (.len none) [.t 58], none),
      (.p 60 (.bin .lss) [.t 57, .t 59], none)]))
   (.cond (.t 60)
    .skip
    (.exit 2)))
  (.seq (.block 3 (.seq (.kill [1, 7, 12] [] (.region [
        (.p 63 .id [.t 1], none),
        (.p 64 .id [.t 12], none),
        (.p 65 (.indexAddr none 9) [.t 63, .t 64], none),
        (.p 66 (.fieldAddr 6) [.t 65], none),
        (.load 67 none (some 9999) (.t 66), none),
        (.p 68 .id [.t 67], none),
        (.p 69 .id [.t 7], some (68, true)),
        (.p 70 .id [.t 12], some (68, true)),
        (.call 71 22 [.t 69, .t 70] [] [] [], some (68, true)),
        (.p 72 (.un .not) [.t 71], some (68, true)),
        (.p 73 .pick [.t 68, .t 72, .c (.pv (.bool false))], none)]))
     (.cond (.t 73)
      (.seq (.kill [] [] (.region [
          (.p 6 .id [.c (.pv (.bool false))], none)]))
       .ret)
      .skip)))
   (.kill [1, 7, 12] [] (.region [
      (.p 61 .id [.t 12], none),
      (.p 62 (.bin .add) [.t 61, .c (.pv (.int .i64 1))], none),
      (.p 12 .id [.t 62], none)]))))
def irRef26Explains : IR := (.seq (.region [
    (.box 3 (.t 0), none),
    (.p 6 .id [.c (.pv (.bool false))], none)])
 (.seq (.kill [1, 2, 3] [3] (.region [
     (.p 7 .id [.c (.os 3 1 [])], none)]))
  (.seq (.seq (.kill [1, 2, 3, 7] [3] (.region [
       (.p 8 .id [.c (.pv (.int .i64 0))], none)]))
    (.block 0 (.loop (.kill [1, 2, 3, 7, 8] [3] irRef26Explains_L1))))
   (.seq (.seq (.kill [1, 7] [] (.region [
        (.p 12 .id [.c (.pv (.int .i64 0))], none)]))
     (.block 2 (.loop (.kill [1, 7, 12] [] irRef26Explains_L2))))
    (.seq (.kill [] [] (.region [
        (.p 6 .id [.c (.pv (.bool true))], none)]))
     .ret)))))
theorem okRef26Explains : okFn Try.prog Try.f14 irRef26Explains [.t 6] [] 3 = true := by kernel_rfl

-- consistoryref26.from
-- consistoryref26.from: args [24, 25, 47]; lent []; rs [.t 6]; loops: L1 keeps [1, 2, 3, 7, 8] [3]; L2 keeps [1, 2, 3, 9] [3]
def irRef26From_L1 : IR := (.seq (.seq (.kill [1, 2, 3, 7, 8] [3] (.region [
      (.p 13 .id [.t 8], none),
      (.p 14 .id [.t 1], none),
      (.p 15 (.len none) [.t 14], none),
      (.p 16 (.bin .lss) [.t 13, .t 15], none)]))
   (.cond (.t 16)
    .skip
    (.exit 0)))
  (.seq (.block 1 (.seq (.kill [1, 2, 3, 7, 8] [3] (.region [
        (.p 19 .id [.t 1], none),
        (.p 20 .id [.t 8], none),
        (.p 21 (.indexAddr none 9) [.t 19, .t 20], none),
        (.p 22 (.fieldAddr 6) [.t 21], none),
        (.load 23 none (some 9999) (.t 22), none),
        (.p 24 .id [.t 23], none),
        (.p 25 .id [.t 2], some (24, true)),
        (.p 26 .id [.t 8], some (24, true)),
        (.call 27 22 [.t 25, .t 26] [] [] [], some (24, true)),
        (.p 28 (.un .not) [.t 27], some (24, true)),
        (.p 29 .pick [.t 24, .t 28, .c (.pv (.bool false))], none)]))
     (.cond (.t 29)
      (.kill [1, 2, 3, 8] [3] (.region [
         (.p 7 .id [.c (.pv (.bool false))], none)]))
      .skip)))
   (.kill [1, 2, 3, 7, 8] [3] (.region [
      (.p 17 .id [.t 8], none),
      (.p 18 (.bin .add) [.t 17, .c (.pv (.int .i64 1))], none),
      (.p 8 .id [.t 18], none)]))))
def irRef26From_L2 : IR := (.seq (.seq (.kill [1, 2, 3, 9] [3] (.region [
      (.p 31 .id [.t 9], none),
      (.p 32 .id [.t 1], none),
      (.p 33 (.len none) [.t 32], none),
      (.p 34 (.bin .lss) [.t 31, .t 33], none)]))
   (.cond (.t 34)
    .skip
    (.exit 2)))
  (.seq (.block 3 (.seq (.seq (.kill [1, 2, 3, 9] [3] (.region [
         (.p 37 .id [.t 1], none),
         (.p 38 .id [.t 2], none),
         (.p 39 .id [.t 9], none),
         (.call 40 21 [.t 37, .t 38, .t 39] [] [] [], none),
         (.p 41 (.un .not) [.t 40], none)]))
      (.cond (.t 41)
       (.exit 3)
       .skip))
     (.seq (.kill [1, 2, 3, 9] [3] (.region [
         (.load 43 (some (32, true)) (some 3) (.t 3), none),
         (.p 44 .id [.t 1], none),
         (.p 45 .id [.t 9], none),
         (.p 46 (.indexAddr none 9) [.t 44, .t 45], none),
         (.p 47 (.fieldAddr 0) [.t 46], none),
         (.load 48 (some (4, false)) (some 9999) (.t 47), none),
         (.call 49 12 [.t 43, .t 48] [] [] [], none),
         (.p 42 .id [.t 49], none),
         (.p 50 (.ext 0) [.t 42], none),
         (.p 51 (.ext 1) [.t 42], none),
         (.alloc 10 (.pagg [.bool false, .int .i64 0, .bool false, .int .i64 0, .bool false, .int .i64 0, .bool false, .int .i64 0, .bool false, .int .i64 0, .bool false, .int .i64 0, .bool false, .int .i64 0, .bool false, .int .i64 0, .bool false, .int .i64 0, .bool false, .int .i64 0, .bool false, .int .i64 0, .bool false, .int .i64 0, .bool false, .int .i64 0, .bool false, .int .i64 0, .bool false, .int .i64 0, .bool false, .int .i64 0]), none),
         (.alloc 11 (.pagg [.bool false, .int .i64 0]), none),
         (.store (some (32, true)) (some 10) (.t 10) (.t 50), none),
         (.store (some (2, true)) (some 11) (.t 11) (.t 51), none)]))
      (.seq (.seq (.kill [1, 2, 3, 9, 10, 11] [3, 10, 11] (.region [
           (.p 52 .id [.t 1], none),
           (.p 53 .id [.t 9], none),
           (.p 54 (.indexAddr none 9) [.t 52, .t 53], none),
           (.p 55 (.fieldAddr 6) [.t 54], none),
           (.load 56 none (some 9999) (.t 55), none),
           (.p 57 .id [.t 56], none),
           (.load 58 (some (2, true)) (some 11) (.t 11), some (57, true)),
           (.p 59 .id [.t 1], some (57, true)),
           (.p 60 .id [.t 9], some (57, true)),
           (.p 61 (.indexAddr none 9) [.t 59, .t 60], some (57, true)),
           (.p 62 (.fieldAddr 7) [.t 61], some (57, true)),
           (.load 63 (some (2, false)) (some 9999) (.t 62), some (57, true)),
           (.p 64 (.seq true [.b, .i .i64]) [.t 58, .t 63], some (57, true)),
           (.p 65 .pick [.t 57, .t 64, .c (.pv (.bool false))], none)]))
        (.cond (.t 65)
         (.exit 3)
         .skip))
       (.seq (.kill [1, 2, 3, 9, 10] [3, 10] (.region [
           (.p 12 .id [.c (.os 3 1 [])], none)]))
        (.seq (.kill [1, 2, 3, 9, 10, 12] [3, 10] (.region [
            (.mv 66 12, none),
            (.p 67 .id [.t 2], none),
            (.app 68 3 1 66 none (.t 67), none),
            (.mv 12 68, none)]))
         (.seq (.kill [1, 2, 3, 9, 10, 12] [3, 10] (.region [
             (.mv 69 12, none),
             (.p 70 .id [.t 9], none),
             (.bslice 71 3 1 1 [.int .i64 0] [(0, .t 70)], none),
             (.app 72 3 1 69 none (.t 71), none),
             (.mv 12 72, none)]))
          (.seq (.kill [1, 2, 3, 9, 10, 12] [3, 10] (.region [
              (.load 73 (some (32, true)) (some 10) (.t 10), none),
              (.p 74 .id [.t 1], none),
              (.mv 75 12, none),
              (.call 76 18 [.t 73, .t 74, .t 75] [] [] [], none)]))
           (.cond (.t 76)
            (.seq (.kill [] [] (.region [
                (.p 6 .id [.c (.pv (.bool true))], none)]))
             .ret)
            .skip)))))))))
   (.kill [1, 2, 3, 9] [3] (.region [
      (.p 35 .id [.t 9], none),
      (.p 36 (.bin .add) [.t 35, .c (.pv (.int .i64 1))], none),
      (.p 9 .id [.t 36], none)]))))
def irRef26From : IR := (.seq (.region [
    (.box 3 (.t 0), none),
    (.p 6 .id [.c (.pv (.bool false))], none)])
 (.seq (.kill [1, 2, 3] [3] (.region [
     (.p 7 .id [.c (.pv (.bool true))], none)]))
  (.seq (.seq (.kill [1, 2, 3, 7] [3] (.region [
       (.p 8 .id [.c (.pv (.int .i64 0))], none)]))
    (.block 0 (.loop (.kill [1, 2, 3, 7, 8] [3] irRef26From_L1))))
   (.seq (.seq (.kill [1, 2, 3, 7] [3] (.region [
        (.p 30 .id [.t 7], none)]))
     (.cond (.t 30)
      (.seq (.kill [] [] (.region [
          (.p 6 .id [.c (.pv (.bool true))], none)]))
       .ret)
      .skip))
    (.seq (.seq (.kill [1, 2, 3] [3] (.region [
         (.p 9 .id [.c (.pv (.int .i64 0))], none)]))
      (.block 2 (.loop (.kill [1, 2, 3, 9] [3] irRef26From_L2))))
     (.seq (.kill [] [] (.region [
         (.p 6 .id [.c (.pv (.bool false))], none)]))
      .ret))))))
theorem okRef26From : okFn Try.prog Try.f18 irRef26From [.t 6] [] 3 = true := by kernel_rfl

-- consistoryref26.Linear
-- consistoryref26.Linear: args [24, 25]; lent []; rs [.t 4, .t 5]; loops: L1 keeps [1, 2, 6] [2]
def irRef26Linear_L1 : IR := (.seq (.seq (.kill [1, 2, 6] [2] (.region [
      (.p 10 .id [.t 6], none),
      (.p 11 .id [.t 1], none),
      (.p 12 (.len none) [.t 11], none),
      (.p 13 (.bin .lss) [.t 10, .t 12], none)]))
   (.cond (.t 13)
    .skip
    (.exit 0)))
  (.seq (.block 1 (.seq (.kill [1, 2, 6] [2] (.region [
        (.p 16 .id [.t 1], none),
        (.p 17 .id [.t 6], none),
        (.p 18 (.indexAddr none 9) [.t 16, .t 17], none),
        (.load 19 (some (9, true)) (some 9999) (.t 18), none),
        (.call 20 17 [.t 19] [] [] [], none),
        (.p 21 (.un .not) [.t 20], none)]))
     (.cond (.t 21)
      (.seq (.kill [] [] (.region [
          (.p 4 .id [.c (.pv (.bool false))], none),
          (.p 5 .id [.c (.pv (.int .i64 15))], none)]))
       .ret)
      .skip)))
   (.kill [1, 2, 6] [2] (.region [
      (.p 14 .id [.t 6], none),
      (.p 15 (.bin .add) [.t 14, .c (.pv (.int .i64 1))], none),
      (.p 6 .id [.t 15], none)]))))
def irRef26Linear : IR := (.seq (.region [
    (.box 2 (.t 0), none),
    (.p 4 .id [.c (.pv (.bool false))], none),
    (.p 5 .id [.c (.pv (.int .i64 0))], none)])
 (.seq (.seq (.kill [1, 2] [2] (.region [
      (.p 7 .id [.t 1], none),
      (.p 8 (.len none) [.t 7], none),
      (.p 9 (.bin .gtr) [.t 8, .c (.pv (.int .i64 12))], none)]))
   (.cond (.t 9)
    (.seq (.kill [] [] (.region [
        (.p 4 .id [.c (.pv (.bool false))], none),
        (.p 5 .id [.c (.pv (.int .i64 4))], none)]))
     .ret)
    .skip))
  (.seq (.seq (.kill [1, 2] [2] (.region [
       (.p 6 .id [.c (.pv (.int .i64 0))], none)]))
    (.block 0 (.loop (.kill [1, 2, 6] [2] irRef26Linear_L1))))
   (.seq (.kill [1, 2] [2] (.region [
       (.load 22 (some (32, true)) (some 2) (.t 2), none),
       (.mv 23 1, none),
       (.call 24 18 [.t 22, .t 23, .c (.os 3 1 [])] [] [] [], none),
       (.p 4 .id [.t 24], none),
       (.p 5 .id [.c (.pv (.int .i64 0))], none)]))
    .ret))))
theorem okRef26Linear : okFn Try.prog Try.f11 irRef26Linear [.t 4, .t 5] [] 2 = true := by kernel_rfl

-- consistorylaw26.wakes
-- consistorylaw26.wakes: args []; lent []; rs [.t 0]; loops: 
def irLaw26Wakes : IR := (.seq (.region [
    (.p 0 .id [.c (.pv (.bool false))], none)])
 (.seq (.kill [] [] (.region [
     (.build 6 (.pagg (List.replicate 4 (.int .i64 0))) [(0, 1, .c (.pv (.int .i64 2))), (2, 1, .c (.pv (.int .i64 1)))], none),
     (.build 7 (.pagg [.bool false, .int .i64 0]) [(0, 1, .c (.pv (.bool true)))], none),
     (.build 8 (.pagg [.int .i64 0, .int .i64 0, .int .i64 0, .int .i64 0, .int .i64 0, .int .i64 0, .bool false, .bool false, .int .i64 0]) [(0, 4, .t 6), (4, 1, .c (.pv (.int .i64 0))), (5, 1, .c (.pv (.int .i64 1))), (6, 1, .c (.pv (.bool true))), (7, 2, .t 7)], none),
     (.build 9 (.pagg (List.replicate 4 (.int .i64 0))) [(0, 1, .c (.pv (.int .i64 1)))], none),
     (.build 10 (.pagg [.int .i64 0, .int .i64 0, .int .i64 0, .int .i64 0, .int .i64 0, .int .i64 0, .bool false, .bool false, .int .i64 0]) [(0, 4, .t 9), (4, 1, .c (.pv (.int .i64 2))), (5, 1, .c (.pv (.int .i64 3))), (6, 1, .c (.pv (.bool true)))], none),
     (.bslice 11 40 9 2 [.int .i64 0, .int .i64 0, .int .i64 0, .int .i64 0, .int .i64 0, .int .i64 0, .bool false, .bool false, .int .i64 0] [(0, .t 8), (1, .t 10)], none),
     (.mv 1 11, none)]))
  (.seq (.kill [1] [] (.region [
      (.build 13 (.pagg [.bool false, .int .i64 0, .bool false, .int .i64 0, .bool false, .int .i64 0, .bool false, .int .i64 0, .bool false, .int .i64 0, .bool false, .int .i64 0, .bool false, .int .i64 0, .bool false, .int .i64 0, .bool false, .int .i64 0, .bool false, .int .i64 0, .bool false, .int .i64 0, .bool false, .int .i64 0, .bool false, .int .i64 0, .bool false, .int .i64 0, .bool false, .int .i64 0, .bool false, .int .i64 0]) [], none),
      (.p 14 .id [.t 1], none),
      (.call 15 10 [.t 13, .t 14] [] [] [], none),
      (.p 12 .id [.t 15], none),
      (.p 16 (.ext 0) [.t 12], none),
      (.p 17 (.ext 1) [.t 12], none),
      (.p 2 .id [.t 16], none),
      (.p 3 .id [.t 17], none)]))
   (.seq (.kill [1, 2, 3] [] (.region [
       (.build 19 (.pagg [.bool false, .int .i64 0, .bool false, .int .i64 0, .bool false, .int .i64 0, .bool false, .int .i64 0, .bool false, .int .i64 0, .bool false, .int .i64 0, .bool false, .int .i64 0, .bool false, .int .i64 0, .bool false, .int .i64 0, .bool false, .int .i64 0, .bool false, .int .i64 0, .bool false, .int .i64 0, .bool false, .int .i64 0, .bool false, .int .i64 0, .bool false, .int .i64 0, .bool false, .int .i64 0]) [], none),
       (.mv 20 1, none),
       (.p 21 (.slice none 9 false true) [.t 20, .c (.pv (.int .i64 1))], none),
       (.call 22 10 [.t 19, .t 21] [] [] [], none),
       (.p 18 .id [.t 22], none),
       (.p 23 (.ext 0) [.t 18], none),
       (.p 24 (.ext 1) [.t 18], none),
       (.p 4 .id [.t 23], none),
       (.p 5 .id [.t 24], none)]))
    (.seq (.kill [2, 3, 4, 5] [] (.region [
        (.p 25 .id [.t 2], none),
        (.p 26 (.un .not) [.t 25], none),
        (.p 27 .id [.t 26], none),
        (.p 28 .id [.t 3], some (27, true)),
        (.p 29 (.bin .eql) [.t 28, .c (.pv (.int .i64 0))], some (27, true)),
        (.p 30 .pick [.t 27, .t 29, .c (.pv (.bool false))], none),
        (.p 31 .id [.t 30], none),
        (.p 32 .id [.t 4], some (31, true)),
        (.p 33 .pick [.t 31, .t 32, .c (.pv (.bool false))], none),
        (.p 34 .id [.t 33], none),
        (.p 35 .id [.t 5], some (34, true)),
        (.p 36 (.bin .eql) [.t 35, .c (.pv (.int .i64 0))], some (34, true)),
        (.p 37 .pick [.t 34, .t 36, .c (.pv (.bool false))], none),
        (.p 0 .id [.t 37], none)]))
     .ret)))))
theorem okLaw26Wakes : okFn Try.prog Try.f9 irLaw26Wakes [.t 0] [] 0 = true := by kernel_rfl

-- consistorylaw26.HistLinear
-- consistorylaw26.HistLinear: args [24, 25]; lent []; rs [.t 4]; loops: 
def irLaw26HistLinear : IR := (.seq (.region [
    (.box 2 (.t 0), none),
    (.p 4 .id [.c (.pv (.bool false))], none)])
 (.seq (.seq (.kill [1, 2] [2] (.region [
      (.call 9 9 [] [] [] [], none),
      (.p 10 (.un .not) [.t 9], none)]))
   (.cond (.t 10)
    (.seq (.kill [] [] (.region [
        (.p 4 .id [.c (.pv (.bool false))], none)]))
     .ret)
    .skip))
  (.seq (.seq (.kill [1, 2] [2] (.region [
       (.p 11 .id [.t 1], none),
       (.p 12 (.len none) [.t 11], none),
       (.p 13 (.bin .gtr) [.t 12, .c (.pv (.int .i64 6))], none),
       (.p 14 .id [.t 13], none),
       (.p 15 .id [.t 1], some (14, true)),
       (.p 16 (.len none) [.t 15], some (14, true)),
       (.p 17 (.bin .leq) [.t 16, .c (.pv (.int .i64 12))], some (14, true)),
       (.p 18 .pick [.t 14, .t 17, .c (.pv (.bool false))], none)]))
    (.cond (.t 18)
     (.seq (.kill [] [] (.region [
         (.p 4 .id [.c (.pv (.bool true))], none)]))
      .ret)
     .skip))
   (.seq (.kill [1, 2] [2] (.region [
       (.load 20 (some (32, true)) (some 2) (.t 2), none),
       (.bslice 21 40 9 0 [.int .i64 0, .int .i64 0, .int .i64 0, .int .i64 0, .int .i64 0, .int .i64 0, .bool false, .bool false, .int .i64 0] [], none),
       (.p 22 .id [.t 1], none),
       (.app 23 40 9 21 none (.t 22), none),
       (.call 24 10 [.t 20, .t 23] [] [] [], none),
       (.p 19 .id [.t 24], none),
       (.p 25 (.ext 0) [.t 19], none),
       (.p 26 (.ext 1) [.t 19], none),
       (.p 5 .id [.t 25], none),
       (.p 6 .id [.t 26], none)]))
    (.seq (.kill [1, 2, 5, 6] [2] (.region [
        (.load 28 (some (32, true)) (some 2) (.t 2), none),
        (.mv 29 1, none),
        (.call 30 11 [.t 28, .t 29] [] [] [], none),
        (.p 27 .id [.t 30], none),
        (.p 31 (.ext 0) [.t 27], none),
        (.p 32 (.ext 1) [.t 27], none),
        (.p 7 .id [.t 31], none),
        (.p 8 .id [.t 32], none)]))
     (.seq (.kill [5, 6, 7, 8] [] (.region [
         (.p 33 .id [.t 5], none),
         (.p 34 .id [.t 7], none),
         (.p 35 (.beq false) [.t 33, .t 34], none),
         (.p 36 .id [.t 35], none),
         (.p 37 .id [.t 6], some (36, true)),
         (.p 38 .id [.t 8], some (36, true)),
         (.p 39 (.bin .eql) [.t 37, .t 38], some (36, true)),
         (.p 40 .pick [.t 36, .t 39, .c (.pv (.bool false))], none),
         (.p 4 .id [.t 40], none)]))
      .ret))))))
theorem okLaw26HistLinear : okFn Try.prog Try.f3 irLaw26HistLinear [.t 4] [] 2 = true := by kernel_rfl

-- consistorylaw26.HistRun
-- consistorylaw26.HistRun: args [24, 33, 34]; lent []; rs [.t 6]; loops: L1 keeps [2, 3, 7, 8, 20, 21, 22] [3, 8]
def irLaw26HistRun_L1 : IR := (.seq (.kill [2, 3, 7, 8, 20, 21, 22] [3, 8] (.region [
     (.p 23 (.bin .lss) [.t 22, .t 21], none)]))
  (.seq (.cond (.t 23)
    .skip
    (.exit 0))
   (.seq (.block 1 (.seq (.kill [2, 3, 7, 8, 20, 21, 22] [3, 8] (.region [
         (.p 24 .id [.t 22], none),
         (.p 25 (.indexAddr none 4) [.t 20, .t 22], none),
         (.load 26 (some (4, true)) (some 9999) (.t 25), none),
         (.alloc 10 (.pagg (List.replicate 4 (.int .i64 0))), none),
         (.p 9 .id [.t 24], none),
         (.store (some (4, true)) (some 10) (.t 10) (.t 26), none)]))
      (.seq (.seq (.kill [2, 3, 7, 8, 9, 10, 20, 21, 22] [3, 8, 10] (.region [
           (.p 27 (.fieldAddr 0) [.t 10], none),
           (.load 28 none (some 10) (.t 27), none),
           (.p 29 (.bin .lss) [.t 28, .c (.pv (.int .i64 1))], none),
           (.p 30 .id [.t 29], none),
           (.p 31 (.fieldAddr 0) [.t 10], some (30, false)),
           (.load 32 none (some 10) (.t 31), some (30, false)),
           (.p 33 (.bin .gtr) [.t 32, .c (.pv (.int .i64 5))], some (30, false)),
           (.p 34 .pick [.t 30, .c (.pv (.bool true)), .t 33], none),
           (.p 35 .id [.t 34], none),
           (.p 36 (.fieldAddr 1) [.t 10], some (35, false)),
           (.load 37 none (some 10) (.t 36), some (35, false)),
           (.p 38 (.bin .lss) [.t 37, .c (.pv (.int .i64 0))], some (35, false)),
           (.p 39 .pick [.t 35, .c (.pv (.bool true)), .t 38], none),
           (.p 40 .id [.t 39], none),
           (.p 41 (.fieldAddr 1) [.t 10], some (40, false)),
           (.load 42 none (some 10) (.t 41), some (40, false)),
           (.p 43 (.bin .gtr) [.t 42, .c (.pv (.int .i64 15))], some (40, false)),
           (.p 44 .pick [.t 40, .c (.pv (.bool true)), .t 43], none)]))
        (.cond (.t 44)
         (.seq (.kill [] [] (.region [
             (.p 6 .id [.c (.pv (.bool true))], none)]))
          .ret)
         .skip))
       (.seq (.kill [2, 3, 7, 8, 9, 10, 20, 21, 22] [3, 8, 10] (.region [
           (.load 45 (some (4, true)) (some 10) (.t 10), none),
           (.p 46 .id [.t 9], none),
           (.p 47 (.bin .mul) [.c (.pv (.int .i64 10)), .t 46], none),
           (.p 48 (.bin .add) [.c (.pv (.int .i64 1000)), .t 47], none),
           (.p 49 .id [.t 9], none),
           (.p 50 (.bin .mul) [.c (.pv (.int .i64 10)), .t 49], none),
           (.p 51 (.bin .add) [.c (.pv (.int .i64 1001)), .t 50], none),
           (.build 52 (.pagg [.int .i64 0, .int .i64 0, .int .i64 0, .int .i64 0, .int .i64 0, .int .i64 0, .bool false, .bool false, .int .i64 0]) [(0, 4, .t 45), (4, 1, .t 48), (5, 1, .t 51), (6, 1, .c (.pv (.bool true)))], none),
           (.alloc 11 (.pagg [.int .i64 0, .int .i64 0, .int .i64 0, .int .i64 0, .int .i64 0, .int .i64 0, .bool false, .bool false, .int .i64 0]), none),
           (.store (some (9, true)) (some 11) (.t 11) (.t 52), none)]))
        (.seq (.seq (.kill [2, 3, 7, 8, 9, 10, 11, 20, 21, 22] [3, 8, 10, 11] (.region [
             (.p 53 .id [.t 9], none),
             (.p 54 .id [.t 2], none),
             (.p 55 (.len none) [.t 54], none),
             (.p 56 (.bin .lss) [.t 53, .t 55], none)]))
          (.cond (.t 56)
           (.seq (.kill [2, 3, 7, 8, 9, 10, 11, 20, 21, 22] [3, 8, 10, 11] (.region [
               (.p 57 (.fieldAddr 4) [.t 11], none),
               (.load 58 none (some 11) (.t 57), none),
               (.p 59 .id [.t 2], none),
               (.p 60 .id [.t 9], none),
               (.p 61 (.indexAddr none 1) [.t 59, .t 60], none),
               (.load 62 none (some 9999) (.t 61), none),
               (.p 63 (.conv .i64) [.t 62], none),
               (.p 64 (.bin .sub) [.t 58, .t 63], none),
               (.p 65 (.fieldAddr 4) [.t 11], none),
               (.store none (some 11) (.t 65) (.t 64), none)]))
            (.kill [2, 3, 7, 8, 9, 10, 11, 20, 21, 22] [3, 8, 10, 11] (.region [
               (.p 66 (.fieldAddr 5) [.t 11], none),
               (.load 67 none (some 11) (.t 66), none),
               (.p 68 .id [.t 2], none),
               (.p 69 .id [.t 9], none),
               (.p 70 (.indexAddr none 1) [.t 68, .t 69], none),
               (.load 71 none (some 9999) (.t 70), none),
               (.p 72 (.conv .i64) [.t 71], none),
               (.p 73 (.bin .add) [.t 67, .t 72], none),
               (.p 74 (.fieldAddr 5) [.t 11], none),
               (.store none (some 11) (.t 74) (.t 73), none)])))
           .skip))
         (.seq (.kill [2, 3, 7, 8, 10, 11, 20, 21, 22] [3, 8, 10, 11] (.region [
             (.load 76 (some (32, true)) (some 8) (.t 8), none),
             (.load 77 (some (4, true)) (some 10) (.t 10), none),
             (.call 78 12 [.t 76, .t 77] [] [] [], none),
             (.p 75 .id [.t 78], none),
             (.p 79 (.ext 0) [.t 75], none),
             (.p 80 (.ext 1) [.t 75], none),
             (.store (some (32, true)) (some 8) (.t 8) (.t 79), none),
             (.p 81 (.fieldAddr 7) [.t 11], none),
             (.store (some (2, false)) (some 11) (.t 81) (.t 80), none)]))
          (.kill [2, 3, 7, 8, 11, 20, 21, 22] [3, 8, 11] (.region [
             (.mv 82 7, none),
             (.load 83 (some (9, true)) (some 11) (.t 11), none),
             (.bslice 84 40 9 1 [.int .i64 0, .int .i64 0, .int .i64 0, .int .i64 0, .int .i64 0, .int .i64 0, .bool false, .bool false, .int .i64 0] [(0, .t 83)], none),
             (.app 85 40 9 82 none (.t 84), none),
             (.mv 7 85, none)]))))))))
    (.kill [2, 3, 7, 8, 20, 21, 22] [3, 8] (.region [
       (.p 86 (.bin .add) [.t 22, .c (.pv (.int .i64 1))], none),
       (.p 22 .id [.t 86], none)])))))
def irLaw26HistRun : IR := (.seq (.region [
    (.box 3 (.t 0), none),
    (.p 6 .id [.c (.pv (.bool false))], none)])
 (.seq (.seq (.kill [1, 2, 3] [3] (.region [
      (.call 14 9 [] [] [] [], none),
      (.p 15 (.un .not) [.t 14], none)]))
   (.cond (.t 15)
    (.seq (.kill [] [] (.region [
        (.p 6 .id [.c (.pv (.bool false))], none)]))
     .ret)
    .skip))
  (.seq (.seq (.kill [1, 2, 3] [3] (.region [
       (.p 16 .id [.t 1], none),
       (.p 17 (.len none) [.t 16], none),
       (.p 18 (.bin .gtr) [.t 17, .c (.pv (.int .i64 10))], none)]))
    (.cond (.t 18)
     (.seq (.kill [] [] (.region [
         (.p 6 .id [.c (.pv (.bool true))], none)]))
      .ret)
     .skip))
   (.seq (.kill [1, 2, 3] [3] (.region [
       (.p 7 .id [.c (.os 40 9 [])], none)]))
    (.seq (.kill [1, 2, 3, 7] [3] (.region [
        (.load 19 (some (32, true)) (some 3) (.t 3), none),
        (.alloc 8 (.pagg [.bool false, .int .i64 0, .bool false, .int .i64 0, .bool false, .int .i64 0, .bool false, .int .i64 0, .bool false, .int .i64 0, .bool false, .int .i64 0, .bool false, .int .i64 0, .bool false, .int .i64 0, .bool false, .int .i64 0, .bool false, .int .i64 0, .bool false, .int .i64 0, .bool false, .int .i64 0, .bool false, .int .i64 0, .bool false, .int .i64 0, .bool false, .int .i64 0, .bool false, .int .i64 0]), none),
        (.store (some (32, true)) (some 8) (.t 8) (.t 19), none)]))
     (.seq (.seq (.kill [1, 2, 3, 7, 8] [3, 8] (.region [
          (.mv 20 1, none),
          (.p 21 (.len none) [.t 20], none),
          (.p 22 .id [.c (.pv (.int .i64 0))], none)]))
       (.block 0 (.loop (.kill [2, 3, 7, 8, 20, 21, 22] [3, 8] irLaw26HistRun_L1))))
      (.seq (.kill [3, 7] [3] (.region [
          (.load 88 (some (32, true)) (some 3) (.t 3), none),
          (.mv 89 7, none),
          (.call 90 10 [.t 88, .t 89] [] [] [], none),
          (.p 87 .id [.t 90], none),
          (.p 91 (.ext 0) [.t 87], none),
          (.p 92 (.ext 1) [.t 87], none),
          (.p 12 .id [.t 91], none),
          (.p 13 .id [.t 92], none)]))
       (.seq (.kill [12, 13] [] (.region [
           (.p 93 .id [.t 12], none),
           (.p 94 .id [.t 93], none),
           (.p 95 .id [.t 13], some (94, true)),
           (.p 96 (.bin .eql) [.t 95, .c (.pv (.int .i64 0))], some (94, true)),
           (.p 97 .pick [.t 94, .t 96, .c (.pv (.bool false))], none),
           (.p 6 .id [.t 97], none)]))
        .ret))))))))
theorem okLaw26HistRun : okFn Try.prog Try.f4 irLaw26HistRun [.t 6] [] 3 = true := by kernel_rfl

-- consistorylaw26.HistLocal
-- consistorylaw26.HistLocal: args [24, 25]; lent []; rs [.t 4]; loops: L2 keeps [1, 2, 5, 7, 8, 9, 29, 32, 33, 34] [2]; L1 keeps [1, 2, 5, 7, 29] [2]
def irLaw26HistLocal_L2 : IR := (.seq (.kill [1, 2, 5, 7, 8, 9, 29, 32, 33, 34] [2] (.region [
     (.p 35 (.bin .lss) [.t 34, .t 33], none)]))
  (.seq (.cond (.t 35)
    .skip
    (.exit 2))
   (.seq (.block 3 (.seq (.kill [1, 2, 5, 7, 8, 9, 29, 32, 33, 34] [2] (.region [
         (.p 36 (.indexAddr none 9) [.t 32, .t 34], none),
         (.load 37 (some (9, true)) (some 9999) (.t 36), none),
         (.alloc 11 (.pagg [.int .i64 0, .int .i64 0, .int .i64 0, .int .i64 0, .int .i64 0, .int .i64 0, .bool false, .bool false, .int .i64 0]), none),
         (.store (some (9, true)) (some 11) (.t 11) (.t 37), none)]))
      (.seq (.kill [1, 2, 5, 7, 8, 9, 11, 29, 32, 33, 34] [2, 11] (.region [
          (.p 38 (.fieldAddr 0) [.t 11], none),
          (.p 39 (.fieldAddr 1) [.t 38], none),
          (.load 40 none (some 11) (.t 39), none),
          (.p 41 .id [.t 8], none),
          (.p 42 (.bin .eql) [.t 40, .t 41], none)]))
       (.cond (.t 42)
        (.kill [1, 2, 5, 7, 8, 9, 11, 29, 32, 33, 34] [2, 11] (.region [
           (.mv 43 9, none),
           (.load 44 (some (9, true)) (some 11) (.t 11), none),
           (.bslice 45 40 9 1 [.int .i64 0, .int .i64 0, .int .i64 0, .int .i64 0, .int .i64 0, .int .i64 0, .bool false, .bool false, .int .i64 0] [(0, .t 44)], none),
           (.app 46 40 9 43 none (.t 45), none),
           (.mv 9 46, none)]))
        .skip))))
    (.kill [1, 2, 5, 7, 8, 9, 29, 32, 33, 34] [2] (.region [
       (.p 47 (.bin .add) [.t 34, .c (.pv (.int .i64 1))], none),
       (.p 34 .id [.t 47], none)])))))
def irLaw26HistLocal_L1 : IR := (.seq (.kill [1, 2, 5, 7, 29] [2] (.region [
     (.p 30 (.bin .lss) [.t 29, .c (.pv (.int .i64 16))], none)]))
  (.seq (.cond (.t 30)
    .skip
    (.exit 0))
   (.seq (.block 1 (.seq (.kill [1, 2, 5, 7, 29] [2] (.region [
         (.p 31 .id [.t 29], none),
         (.p 8 .id [.t 31], none)]))
      (.seq (.kill [1, 2, 5, 7, 8, 29] [2] (.region [
          (.p 9 .id [.c (.os 40 9 [])], none)]))
       (.seq (.seq (.kill [1, 2, 5, 7, 8, 9, 29] [2] (.region [
            (.p 32 .id [.t 1], none),
            (.p 33 (.len none) [.t 32], none),
            (.p 34 .id [.c (.pv (.int .i64 0))], none)]))
         (.block 2 (.loop (.kill [1, 2, 5, 7, 8, 9, 29, 32, 33, 34] [2] irLaw26HistLocal_L2))))
        (.seq (.kill [1, 2, 5, 7, 9, 29] [2] (.region [
            (.load 49 (some (32, true)) (some 2) (.t 2), none),
            (.mv 50 9, none),
            (.call 51 10 [.t 49, .t 50] [] [] [], none),
            (.p 48 .id [.t 51], none),
            (.p 52 (.ext 0) [.t 48], none),
            (.p 53 (.ext 1) [.t 48], none),
            (.p 12 .id [.t 52], none),
            (.p 13 .id [.t 53], none)]))
         (.kill [1, 2, 5, 7, 12, 29] [2] (.region [
            (.p 54 .id [.t 7], none),
            (.p 55 .id [.t 54], none),
            (.p 56 .id [.t 12], some (55, true)),
            (.p 57 .pick [.t 55, .t 56, .c (.pv (.bool false))], none),
            (.p 7 .id [.t 57], none)])))))))
    (.kill [1, 2, 5, 7, 29] [2] (.region [
       (.p 58 (.bin .add) [.t 29, .c (.pv (.int .i64 1))], none),
       (.p 29 .id [.t 58], none)])))))
def irLaw26HistLocal : IR := (.seq (.region [
    (.box 2 (.t 0), none),
    (.p 4 .id [.c (.pv (.bool false))], none)])
 (.seq (.seq (.kill [1, 2] [2] (.region [
      (.call 14 9 [] [] [] [], none),
      (.p 15 (.un .not) [.t 14], none)]))
   (.cond (.t 15)
    (.seq (.kill [] [] (.region [
        (.p 4 .id [.c (.pv (.bool false))], none)]))
     .ret)
    .skip))
  (.seq (.seq (.kill [1, 2] [2] (.region [
       (.p 16 .id [.t 1], none),
       (.p 17 (.len none) [.t 16], none),
       (.p 18 (.bin .gtr) [.t 17, .c (.pv (.int .i64 7))], none)]))
    (.cond (.t 18)
     (.seq (.kill [] [] (.region [
         (.p 4 .id [.c (.pv (.bool true))], none)]))
      .ret)
     .skip))
   (.seq (.kill [1, 2] [2] (.region [
       (.load 20 (some (32, true)) (some 2) (.t 2), none),
       (.p 21 .id [.t 1], none),
       (.call 22 10 [.t 20, .t 21] [] [] [], none),
       (.p 19 .id [.t 22], none),
       (.p 23 (.ext 0) [.t 19], none),
       (.p 24 (.ext 1) [.t 19], none),
       (.p 5 .id [.t 23], none),
       (.p 6 .id [.t 24], none)]))
    (.seq (.seq (.kill [1, 2, 5, 6] [2] (.region [
         (.p 25 .id [.t 6], none),
         (.p 26 (.bin .neq) [.t 25, .c (.pv (.int .i64 0))], none)]))
      (.cond (.t 26)
       (.seq (.kill [5] [] (.region [
           (.p 27 .id [.t 5], none),
           (.p 28 (.un .not) [.t 27], none),
           (.p 4 .id [.t 28], none)]))
        .ret)
       .skip))
     (.seq (.kill [1, 2, 5] [2] (.region [
         (.p 7 .id [.c (.pv (.bool true))], none)]))
      (.seq (.seq (.kill [1, 2, 5, 7] [2] (.region [
           (.p 29 .id [.c (.pv (.int .i64 0))], none)]))
        (.block 0 (.loop (.kill [1, 2, 5, 7, 29] [2] irLaw26HistLocal_L1))))
       (.seq (.kill [5, 7] [] (.region [
           (.p 59 .id [.t 5], none),
           (.p 60 .id [.t 7], none),
           (.p 61 (.beq false) [.t 59, .t 60], none),
           (.p 4 .id [.t 61], none)]))
        .ret))))))))
theorem okLaw26HistLocal : okFn Try.prog Try.f7 irLaw26HistLocal [.t 4] [] 2 = true := by kernel_rfl

-- consistorylaw26.HistExplains
-- consistorylaw26.HistExplains: args [24, 25, 47]; lent []; rs [.t 6]; loops: 
def irLaw26HistExplains : IR := (.seq (.region [
    (.box 3 (.t 0), none),
    (.p 6 .id [.c (.pv (.bool false))], none)])
 (.seq (.seq (.kill [1, 2, 3] [3] (.region [
      (.call 10 9 [] [] [] [], none),
      (.p 11 (.un .not) [.t 10], none)]))
   (.cond (.t 11)
    (.seq (.kill [] [] (.region [
        (.p 6 .id [.c (.pv (.bool false))], none)]))
     .ret)
    .skip))
  (.seq (.seq (.kill [1, 2, 3] [3] (.region [
       (.p 12 .id [.t 1], none),
       (.p 13 (.len none) [.t 12], none),
       (.p 14 (.bin .gtr) [.t 13, .c (.pv (.int .i64 12))], none),
       (.p 15 .id [.t 14], none),
       (.p 16 .id [.t 2], some (15, false)),
       (.p 17 (.len none) [.t 16], some (15, false)),
       (.p 18 (.bin .gtr) [.t 17, .c (.pv (.int .i64 20))], some (15, false)),
       (.p 19 .pick [.t 15, .c (.pv (.bool true)), .t 18], none)]))
    (.cond (.t 19)
     (.seq (.kill [] [] (.region [
         (.p 6 .id [.c (.pv (.bool true))], none)]))
      .ret)
     .skip))
   (.seq (.kill [1, 2, 3] [3] (.region [
       (.load 20 (some (32, true)) (some 3) (.t 3), none),
       (.p 21 .id [.t 1], none),
       (.p 22 .id [.t 2], none),
       (.call 23 13 [.t 20, .t 21, .t 22] [] [] [], none),
       (.p 7 .id [.t 23], none)]))
    (.seq (.seq (.kill [1, 2, 3, 7] [3] (.region [
         (.p 24 .id [.t 7], none),
         (.load 25 (some (32, true)) (some 3) (.t 3), none),
         (.p 26 .id [.t 1], none),
         (.mv 27 2, none),
         (.call 28 14 [.t 25, .t 26, .t 27] [] [] [], none),
         (.p 29 (.beq true) [.t 24, .t 28], none)]))
      (.cond (.t 29)
       (.seq (.kill [] [] (.region [
           (.p 6 .id [.c (.pv (.bool false))], none)]))
        .ret)
       .skip))
     (.seq (.seq (.kill [1, 3, 7] [3] (.region [
          (.p 30 .id [.t 7], none),
          (.p 31 (.un .not) [.t 30], none)]))
       (.cond (.t 31)
        (.seq (.kill [] [] (.region [
            (.p 6 .id [.c (.pv (.bool true))], none)]))
         .ret)
        .skip))
      (.seq (.kill [1, 3] [3] (.region [
          (.load 33 (some (32, true)) (some 3) (.t 3), none),
          (.mv 34 1, none),
          (.call 35 10 [.t 33, .t 34] [] [] [], none),
          (.p 32 .id [.t 35], none),
          (.p 36 (.ext 0) [.t 32], none),
          (.p 37 (.ext 1) [.t 32], none),
          (.p 8 .id [.t 36], none),
          (.p 9 .id [.t 37], none)]))
       (.seq (.kill [8, 9] [] (.region [
           (.p 38 .id [.t 8], none),
           (.p 39 .id [.t 38], none),
           (.p 40 .id [.t 9], some (39, false)),
           (.p 41 (.bin .eql) [.t 40, .c (.pv (.int .i64 15))], some (39, false)),
           (.p 42 .pick [.t 39, .c (.pv (.bool true)), .t 41], none),
           (.p 6 .id [.t 42], none)]))
        .ret))))))))
theorem okLaw26HistExplains : okFn Try.prog Try.f8 irLaw26HistExplains [.t 6] [] 3 = true := by kernel_rfl

end Go.Proofs.Ythpfadbdkkmagaa
