/- The abstract code of functions, printed by gen_ir.py out of the program's form in Lean; each is checked against it. -/
import Derived.Test.YtdbbbaaopngbcaaProg
import Derived.Test.YtdbbbaaopngbcaaIrNums
set_option linter.unusedVariables false
set_option linter.unusedSimpArgs false
set_option maxRecDepth 100000
namespace Go.Proofs.Ytdbbbaaopngbcaa
open Go.Abs
-- kv.Put
-- kv.Put: args [27]; lent []; rs [.t 2]; loops: L1 keeps [3, 4, 7, 8] []
def irKvPut_L1 : IR := (.seq (.kill [3, 4, 7, 8] [] (.region [
     (.p 9 (.bin .lss) [.t 8, .c (.pv (.int .i64 16))], none)]))
  (.seq (.cond (.t 9)
    .skip
    (.exit 0))
   (.seq (.block 1 (.seq (.kill [3, 4, 7, 8] [] (.region [
         (.p 10 .id [.t 8], none),
         (.p 11 (.index 16 2 (some 2)) [.t 7, .t 8], none),
         (.alloc 6 (.pagg [.bool false, .int .i64 0]), none),
         (.p 5 .id [.t 10], none),
         (.store (some (2, true)) (some 6) (.t 6) (.t 11), none)]))
      (.seq (.kill [3, 4, 5, 6, 7, 8] [6] (.region [
          (.p 12 (.fieldAddr 0) [.t 6], none),
          (.load 13 none (some 6) (.t 12), none)]))
       (.cond (.t 13)
        (.seq (.kill [3, 4, 5, 6, 7, 8] [6] (.region [
            (.mv 14 3, none),
            (.p 15 .id [.t 5], none),
            (.p 16 (.conv .u64) [.t 15], none),
            (.call 17 28 [.t 14, .t 16, .c (.pv (.int .i64 1))] [] [] [], none),
            (.p 18 (.fieldAddr 1) [.t 6], none),
            (.load 19 none (some 6) (.t 18), none),
            (.call 20 54 [.t 17, .t 19] [] [] [], none),
            (.mv 3 20, none)]))
         (.kill [3, 4, 7, 8] [] (.region [
            (.p 21 .id [.t 4], none),
            (.p 22 (.bin .add) [.t 21, .c (.pv (.int .u64 1))], none),
            (.p 4 .id [.t 22], none)])))
        .skip))))
    (.kill [3, 4, 7, 8] [] (.region [
       (.p 23 (.bin .add) [.t 8, .c (.pv (.int .i64 1))], none),
       (.p 8 .id [.t 23], none)])))))
def irKvPut : IR := (.seq (.region [
    (.box 1 (.t 0), none),
    (.p 2 .id [.c (.os 5 1 [])], none)])
 (.seq (.kill [1] [1] (.region [
     (.p 3 .id [.c (.os 5 1 [])], none)]))
  (.seq (.kill [1, 3] [1] (.region [
      (.p 4 .id [.c (.pv (.int .u64 0))], none)]))
   (.seq (.seq (.kill [1, 3, 4] [1] (.region [
        (.load 7 (some (32, true)) (some 1) (.t 1), none),
        (.p 8 .id [.c (.pv (.int .i64 0))], none)]))
     (.block 0 (.loop (.kill [3, 4, 7, 8] [] irKvPut_L1))))
    (.seq (.kill [3, 4] [] (.region [
        (.p 24 .id [.t 4], none),
        (.call 25 55 [.c (.os 5 1 []), .t 24] [] [] [], none),
        (.mv 26 3, none),
        (.app 27 5 1 25 none (.t 26), none),
        (.mv 2 27, none)]))
     .ret)))))
theorem okKvPut : okFn Try.prog Try.f30 irKvPut [.t 2] [] 1 = true := by kernel_rfl

-- kv.Get
-- kv.Get: args [51]; lent []; rs [.cell 2 (some (32, true)), .t 3]; loops: L1 keeps [2, 4, 7, 8, 23, 24] [2, 7, 13]
def irKvGet_L1 : IR := (.seq (.kill [2, 4, 7, 8, 23, 24] [2, 7, 13] (.region [
     (.p 25 (.bin .lss) [.t 24, .t 23], none)]))
  (.seq (.cond (.t 25)
    .skip
    (.exit 0))
   (.seq (.block 1 (.seq (.kill [2, 4, 7, 8, 23, 24] [2, 7, 13] (.region [
         (.p 27 .id [.t 4], none),
         (.call 28 42 [.t 27, .c (.pv (.int .i64 1))] [13] [] [], none),
         (.p 26 .id [.t 28], none),
         (.p 29 (.ext 0) [.t 26], none),
         (.p 30 (.ext 1) [.t 26], none),
         (.p 9 .id [.t 29], none),
         (.p 10 .id [.t 30], none)]))
      (.seq (.seq (.kill [2, 4, 7, 8, 9, 10, 23, 24] [2, 7, 13] (.region [
           (.p 31 .id [.t 10], none),
           (.p 32 (.bin .neq) [.t 31, .c (.pv (.int .i64 0))], none)]))
        (.cond (.t 32)
         (.seq (.kill [2, 10] [2] (.region [
             (.build 33 (.pagg [.bool false, .int .i64 0, .bool false, .int .i64 0, .bool false, .int .i64 0, .bool false, .int .i64 0, .bool false, .int .i64 0, .bool false, .int .i64 0, .bool false, .int .i64 0, .bool false, .int .i64 0, .bool false, .int .i64 0, .bool false, .int .i64 0, .bool false, .int .i64 0, .bool false, .int .i64 0, .bool false, .int .i64 0, .bool false, .int .i64 0, .bool false, .int .i64 0, .bool false, .int .i64 0]) [], none),
             (.p 34 .id [.t 10], none),
             (.store (some (32, true)) (some 2) (.t 2) (.t 33), none),
             (.p 3 .id [.t 34], none)]))
          .ret)
         .skip))
       (.seq (.kill [2, 4, 7, 8, 9, 23, 24] [2, 7, 13] (.region [
           (.p 36 .id [.t 4], none),
           (.call 37 68 [.t 36] [13] [] [], none),
           (.p 35 .id [.t 37], none),
           (.p 38 (.ext 0) [.t 35], none),
           (.p 39 (.ext 1) [.t 35], none),
           (.p 11 .id [.t 38], none),
           (.p 10 .id [.t 39], none)]))
        (.seq (.seq (.kill [2, 4, 7, 8, 9, 10, 11, 23, 24] [2, 7, 13] (.region [
             (.p 40 .id [.t 10], none),
             (.p 41 (.bin .neq) [.t 40, .c (.pv (.int .i64 0))], none)]))
          (.cond (.t 41)
           (.seq (.kill [2, 10] [2] (.region [
               (.build 42 (.pagg [.bool false, .int .i64 0, .bool false, .int .i64 0, .bool false, .int .i64 0, .bool false, .int .i64 0, .bool false, .int .i64 0, .bool false, .int .i64 0, .bool false, .int .i64 0, .bool false, .int .i64 0, .bool false, .int .i64 0, .bool false, .int .i64 0, .bool false, .int .i64 0, .bool false, .int .i64 0, .bool false, .int .i64 0, .bool false, .int .i64 0, .bool false, .int .i64 0, .bool false, .int .i64 0]) [], none),
               (.p 43 .id [.t 10], none),
               (.store (some (32, true)) (some 2) (.t 2) (.t 42), none),
               (.p 3 .id [.t 43], none)]))
            .ret)
           .skip))
         (.seq (.seq (.kill [2, 4, 7, 8, 9, 11, 23, 24] [2, 7, 13] (.region [
              (.p 44 .id [.t 9], none),
              (.p 45 (.conv .i64) [.t 44], none),
              (.p 46 (.bin .geq) [.t 45, .c (.pv (.int .i64 16))], none),
              (.p 47 .id [.t 46], none),
              (.p 48 .id [.t 9], some (47, false)),
              (.p 49 (.conv .i64) [.t 48], some (47, false)),
              (.p 50 .id [.t 8], some (47, false)),
              (.p 51 (.bin .leq) [.t 49, .t 50], some (47, false)),
              (.p 52 .pick [.t 47, .c (.pv (.bool true)), .t 51], none)]))
           (.cond (.t 52)
            (.seq (.kill [2] [2] (.region [
                (.build 53 (.pagg [.bool false, .int .i64 0, .bool false, .int .i64 0, .bool false, .int .i64 0, .bool false, .int .i64 0, .bool false, .int .i64 0, .bool false, .int .i64 0, .bool false, .int .i64 0, .bool false, .int .i64 0, .bool false, .int .i64 0, .bool false, .int .i64 0, .bool false, .int .i64 0, .bool false, .int .i64 0, .bool false, .int .i64 0, .bool false, .int .i64 0, .bool false, .int .i64 0, .bool false, .int .i64 0]) [], none),
                (.store (some (32, true)) (some 2) (.t 2) (.t 53), none),
                (.p 3 .id [.c (.pv (.int .i64 2))], none)]))
             .ret)
            .skip))
          (.seq (.kill [2, 4, 7, 9, 11, 23, 24] [2, 7, 13] (.region [
              (.p 54 .id [.t 9], none),
              (.p 55 (.conv .i64) [.t 54], none),
              (.p 8 .id [.t 55], none)]))
           (.kill [2, 4, 7, 8, 9, 11, 23, 24] [2, 7, 13] (.region [
              (.p 56 .id [.t 9], none),
              (.p 57 .id [.t 11], none),
              (.call 58 69 [.t 57] [] [] [], none),
              (.p 59 (.indexAddr (some 16) 2) [.t 7, .t 56], none),
              (.store (some (2, false)) (some 7) (.t 59) (.t 58), none)])))))))))
    (.kill [2, 4, 7, 8, 23, 24] [2, 7, 13] (.region [
       (.p 60 (.bin .add) [.t 24, .c (.pv (.int .i64 1))], none),
       (.p 24 .id [.t 60], none)])))))
def irKvGet : IR := (.seq (.region [
    (.alloc 2 (.pagg [.bool false, .int .i64 0, .bool false, .int .i64 0, .bool false, .int .i64 0, .bool false, .int .i64 0, .bool false, .int .i64 0, .bool false, .int .i64 0, .bool false, .int .i64 0, .bool false, .int .i64 0, .bool false, .int .i64 0, .bool false, .int .i64 0, .bool false, .int .i64 0, .bool false, .int .i64 0, .bool false, .int .i64 0, .bool false, .int .i64 0, .bool false, .int .i64 0, .bool false, .int .i64 0]), none),
    (.p 3 .id [.c (.pv (.int .i64 0))], none)])
 (.seq (.kill [0, 2] [2] (.region [
     (.mv 12 0, none),
     (.call 13 41 [.t 12] [] [13] [], none),
     (.p 4 .id [.t 13], none)]))
  (.seq (.kill [2, 4] [2, 13] (.region [
      (.p 15 .id [.t 4], none),
      (.call 16 67 [.t 15, .c (.pv (.int .i64 16))] [13] [] [], none),
      (.p 14 .id [.t 16], none),
      (.p 17 (.ext 0) [.t 14], none),
      (.p 18 (.ext 1) [.t 14], none),
      (.p 5 .id [.t 17], none),
      (.p 6 .id [.t 18], none)]))
   (.seq (.seq (.kill [2, 4, 5, 6] [2, 13] (.region [
        (.p 19 .id [.t 6], none),
        (.p 20 (.bin .neq) [.t 19, .c (.pv (.int .i64 0))], none)]))
     (.cond (.t 20)
      (.seq (.kill [2, 6] [2] (.region [
          (.build 21 (.pagg [.bool false, .int .i64 0, .bool false, .int .i64 0, .bool false, .int .i64 0, .bool false, .int .i64 0, .bool false, .int .i64 0, .bool false, .int .i64 0, .bool false, .int .i64 0, .bool false, .int .i64 0, .bool false, .int .i64 0, .bool false, .int .i64 0, .bool false, .int .i64 0, .bool false, .int .i64 0, .bool false, .int .i64 0, .bool false, .int .i64 0, .bool false, .int .i64 0, .bool false, .int .i64 0]) [], none),
          (.p 22 .id [.t 6], none),
          (.store (some (32, true)) (some 2) (.t 2) (.t 21), none),
          (.p 3 .id [.t 22], none)]))
       .ret)
      .skip))
    (.seq (.kill [2, 4, 5] [2, 13] (.region [
        (.alloc 7 (.pagg [.bool false, .int .i64 0, .bool false, .int .i64 0, .bool false, .int .i64 0, .bool false, .int .i64 0, .bool false, .int .i64 0, .bool false, .int .i64 0, .bool false, .int .i64 0, .bool false, .int .i64 0, .bool false, .int .i64 0, .bool false, .int .i64 0, .bool false, .int .i64 0, .bool false, .int .i64 0, .bool false, .int .i64 0, .bool false, .int .i64 0, .bool false, .int .i64 0, .bool false, .int .i64 0]), none)]))
     (.seq (.kill [2, 4, 5, 7] [2, 7, 13] (.region [
         (.p 8 .id [.c (.pv (.int .i64 (-1)))], none)]))
      (.seq (.seq (.kill [2, 4, 5, 7, 8] [2, 7, 13] (.region [
           (.p 23 .id [.t 5], none),
           (.p 24 .id [.c (.pv (.int .i64 0))], none)]))
        (.block 0 (.loop (.kill [2, 4, 7, 8, 23, 24] [2, 7, 13] irKvGet_L1))))
       (.seq (.seq (.kill [2, 4, 7] [2, 7, 13] (.region [
            (.p 61 .id [.t 4], none),
            (.call 62 47 [.t 61] [13] [] [], none),
            (.p 63 (.bin .neq) [.t 62, .c (.pv (.int .i64 0))], none)]))
         (.cond (.t 63)
          (.seq (.kill [2] [2] (.region [
              (.build 64 (.pagg [.bool false, .int .i64 0, .bool false, .int .i64 0, .bool false, .int .i64 0, .bool false, .int .i64 0, .bool false, .int .i64 0, .bool false, .int .i64 0, .bool false, .int .i64 0, .bool false, .int .i64 0, .bool false, .int .i64 0, .bool false, .int .i64 0, .bool false, .int .i64 0, .bool false, .int .i64 0, .bool false, .int .i64 0, .bool false, .int .i64 0, .bool false, .int .i64 0, .bool false, .int .i64 0]) [], none),
              (.store (some (32, true)) (some 2) (.t 2) (.t 64), none),
              (.p 3 .id [.c (.pv (.int .i64 2))], none)]))
           .ret)
          .skip))
        (.seq (.kill [2, 7] [2, 7] (.region [
            (.load 65 (some (32, true)) (some 7) (.t 7), none),
            (.store (some (32, true)) (some 2) (.t 2) (.t 65), none),
            (.p 3 .id [.c (.pv (.int .i64 0))], none)]))
         .ret)))))))))
theorem okKvGet : okFn Try.prog Try.f45 irKvGet [.cell 2 (some (32, true)), .t 3] [] 1 = true := by kernel_rfl

-- consistoryref14.Put
-- consistoryref14.Put: args [27]; lent []; rs [.t 2]; loops: L1 keeps [1, 3, 4, 5] [1]
def irRef14Put_L1 : IR := (.seq (.seq (.kill [1, 3, 4, 5] [1] (.region [
      (.p 6 .id [.t 5], none),
      (.p 7 (.bin .lss) [.t 6, .c (.pv (.int .i64 16))], none)]))
   (.cond (.t 7)
    .skip
    (.exit 0)))
  (.seq (.block 1 (.seq (.kill [1, 3, 4, 5] [1] (.region [
        (.p 10 .id [.t 5], none),
        (.p 11 (.indexAddr (some 16) 2) [.t 1, .t 10], none),
        (.p 12 (.fieldAddr 0) [.t 11], none),
        (.load 13 none (some 1) (.t 12), none)]))
     (.cond (.t 13)
      (.seq (.kill [1, 3, 4, 5] [1] (.region [
          (.p 14 .id [.t 3], none),
          (.p 15 (.bin .add) [.t 14, .c (.pv (.int .i64 1))], none),
          (.p 3 .id [.t 15], none)]))
       (.seq (.kill [1, 3, 4, 5] [1] (.region [
           (.mv 16 4, none),
           (.p 17 .id [.t 5], none),
           (.p 18 (.conv .u8) [.t 17], none),
           (.bslice 19 5 1 1 [.int .u8 0] [(0, .t 18)], none),
           (.app 20 5 1 16 none (.t 19), none),
           (.mv 4 20, none)]))
        (.kill [1, 3, 4, 5] [1] (.region [
           (.mv 21 4, none),
           (.p 22 .id [.t 5], none),
           (.p 23 (.indexAddr (some 16) 2) [.t 1, .t 22], none),
           (.p 24 (.fieldAddr 1) [.t 23], none),
           (.load 25 none (some 1) (.t 24), none),
           (.call 26 58 [.t 25] [] [] [], none),
           (.call 27 57 [.t 26] [] [] [], none),
           (.app 28 5 1 21 none (.t 27), none),
           (.mv 4 28, none)]))))
      .skip)))
   (.kill [1, 3, 4, 5] [1] (.region [
      (.p 8 .id [.t 5], none),
      (.p 9 (.bin .add) [.t 8, .c (.pv (.int .i64 1))], none),
      (.p 5 .id [.t 9], none)]))))
def irRef14Put : IR := (.seq (.region [
    (.box 1 (.t 0), none),
    (.p 2 .id [.c (.os 5 1 [])], none)])
 (.seq (.kill [1] [1] (.region [
     (.p 3 .id [.c (.pv (.int .i64 0))], none)]))
  (.seq (.kill [1, 3] [1] (.region [
      (.p 4 .id [.c (.os 5 1 [])], none)]))
   (.seq (.seq (.kill [1, 3, 4] [1] (.region [
        (.p 5 .id [.c (.pv (.int .i64 0))], none)]))
     (.block 0 (.loop (.kill [1, 3, 4, 5] [1] irRef14Put_L1))))
    (.seq (.kill [3, 4] [] (.region [
        (.p 29 .id [.t 3], none),
        (.p 30 (.conv .u64) [.t 29], none),
        (.call 31 57 [.t 30] [] [] [], none),
        (.mv 32 4, none),
        (.call 33 33 [.t 31, .t 32] [] [] [], none),
        (.mv 2 33, none)]))
     .ret)))))
theorem okRef14Put : okFn Try.prog Try.f37 irRef14Put [.t 2] [] 1 = true := by kernel_rfl

-- execs.PutReply
-- execs.PutReply: args [31]; lent []; rs [.t 2]; loops: L1 keeps [1, 4, 17, 18] [1]
def irExecsPutReply_L1 : IR := (.seq (.kill [1, 4, 17, 18] [1] (.region [
     (.p 19 (.bin .lss) [.t 18, .c (.pv (.int .i64 4))], none)]))
  (.seq (.cond (.t 19)
    .skip
    (.exit 0))
   (.seq (.block 1 (.seq (.kill [1, 4, 17, 18] [1] (.region [
         (.p 20 (.index 4 1 none) [.t 17, .t 18], none),
         (.p 6 .id [.t 20], none)]))
      (.kill [1, 4, 6, 17, 18] [1] (.region [
         (.mv 21 4, none),
         (.p 22 .id [.t 6], none),
         (.p 23 (.conv .u64) [.t 22], none),
         (.call 24 28 [.t 21, .t 23, .c (.pv (.int .i64 1))] [] [] [], none),
         (.mv 4 24, none)]))))
    (.kill [1, 4, 17, 18] [1] (.region [
       (.p 25 (.bin .add) [.t 18, .c (.pv (.int .i64 1))], none),
       (.p 18 .id [.t 25], none)])))))
def irExecsPutReply : IR := (.seq (.region [
    (.box 1 (.t 0), none),
    (.p 2 .id [.c (.os 5 1 [])], none)])
 (.seq (.kill [1] [1] (.region [
     (.p 3 .id [.c (.pv (.int .i64 0))], none)]))
  (.seq (.seq (.kill [1, 3] [1] (.region [
       (.p 7 (.fieldAddr 3) [.t 1], none),
       (.p 8 (.fieldAddr 0) [.t 7], none),
       (.load 9 none (some 1) (.t 8), none)]))
    (.cond (.t 9)
     (.kill [1] [1] (.region [
        (.p 3 .id [.c (.pv (.int .i64 1))], none)]))
     .skip))
   (.seq (.kill [1, 3] [1] (.region [
       (.p 4 .id [.c (.os 5 1 [])], none)]))
    (.seq (.seq (.kill [1, 3, 4] [1] (.region [
         (.p 10 (.fieldAddr 0) [.t 1], none),
         (.load 11 none (some 1) (.t 10), none),
         (.p 12 (.fieldAddr 1) [.t 1], none),
         (.load 13 none (some 1) (.t 12), none),
         (.p 14 (.fieldAddr 2) [.t 1], none),
         (.load 15 none (some 1) (.t 14), none),
         (.p 16 .id [.t 3], none),
         (.build 17 (.pagg (List.replicate 4 (.int .i64 0))) [(0, 1, .t 11), (1, 1, .t 13), (2, 1, .t 15), (3, 1, .t 16)], none),
         (.p 18 .id [.c (.pv (.int .i64 0))], none)]))
      (.block 0 (.loop (.kill [1, 4, 17, 18] [1] irExecsPutReply_L1))))
     (.seq (.kill [1, 4] [1] (.region [
         (.mv 26 4, none),
         (.p 27 (.fieldAddr 3) [.t 1], none),
         (.p 28 (.fieldAddr 1) [.t 27], none),
         (.load 29 none (some 1) (.t 28), none),
         (.call 30 54 [.t 26, .t 29] [] [] [], none),
         (.mv 2 30, none)]))
      .ret))))))
theorem okExecsPutReply : okFn Try.prog Try.f32 irExecsPutReply [.t 2] [] 1 = true := by kernel_rfl

-- execs.GetReply
-- execs.GetReply: args [51]; lent []; rs [.cell 2 (some (5, true)), .t 3]; loops: L1 keeps [2, 4, 5, 6, 18, 19] [2, 5, 6, 14]
def irExecsGetReply_L1 : IR := (.seq (.kill [2, 4, 5, 6, 18, 19] [2, 5, 6, 14] (.region [
     (.p 20 (.bin .lss) [.t 19, .c (.pv (.int .i64 4))], none)]))
  (.seq (.cond (.t 20)
    .skip
    (.exit 0))
   (.seq (.block 1 (.seq (.kill [2, 4, 5, 6, 18, 19] [2, 5, 6, 14] (.region [
         (.p 21 (.index 4 1 none) [.t 18, .t 19], none),
         (.p 8 .id [.t 21], none)]))
      (.seq (.kill [2, 4, 5, 6, 8, 18, 19] [2, 5, 6, 14] (.region [
          (.p 23 .id [.t 4], none),
          (.call 24 42 [.t 23, .c (.pv (.int .i64 1))] [14] [] [], none),
          (.p 22 .id [.t 24], none),
          (.p 25 (.ext 0) [.t 22], none),
          (.p 26 (.ext 1) [.t 22], none),
          (.p 9 .id [.t 25], none),
          (.p 10 .id [.t 26], none)]))
       (.seq (.seq (.kill [2, 4, 5, 6, 8, 9, 10, 18, 19] [2, 5, 6, 14] (.region [
            (.p 27 .id [.t 10], none),
            (.p 28 (.bin .neq) [.t 27, .c (.pv (.int .i64 0))], none)]))
         (.cond (.t 28)
          (.seq (.kill [2, 10] [2] (.region [
              (.build 29 (.pagg [.int .i64 0, .int .i64 0, .int .i64 0, .bool false, .int .i64 0]) [], none),
              (.p 30 .id [.t 10], none),
              (.store (some (5, true)) (some 2) (.t 2) (.t 29), none),
              (.p 3 .id [.t 30], none)]))
           .ret)
          .skip))
        (.kill [2, 4, 5, 6, 8, 9, 18, 19] [2, 5, 6, 14] (.region [
           (.p 31 .id [.t 8], none),
           (.p 32 .id [.t 9], none),
           (.p 33 (.conv .i64) [.t 32], none),
           (.p 34 .nilc [.t 31], none),
           (.store none none (.t 34) (.t 33), none)]))))))
    (.kill [2, 4, 5, 6, 18, 19] [2, 5, 6, 14] (.region [
       (.p 35 (.bin .add) [.t 19, .c (.pv (.int .i64 1))], none),
       (.p 19 .id [.t 35], none)])))))
def irExecsGetReply : IR := (.seq (.region [
    (.alloc 2 (.pagg [.int .i64 0, .int .i64 0, .int .i64 0, .bool false, .int .i64 0]), none),
    (.p 3 .id [.c (.pv (.int .i64 0))], none)])
 (.seq (.kill [0, 2] [2] (.region [
     (.mv 13 0, none),
     (.call 14 41 [.t 13] [] [14] [], none),
     (.p 4 .id [.t 14], none)]))
  (.seq (.kill [2, 4] [2, 14] (.region [
      (.alloc 5 (.pagg [.int .i64 0, .int .i64 0, .int .i64 0, .bool false, .int .i64 0]), none)]))
   (.seq (.kill [2, 4, 5] [2, 5, 14] (.region [
       (.alloc 6 (.pagg [.int .i64 0]), none),
       (.store none (some 6) (.t 6) (.c (.pv (.int .i64 0))), none)]))
    (.seq (.seq (.kill [2, 4, 5, 6] [2, 5, 6, 14] (.region [
         (.p 15 (.fieldAddr 0) [.t 5], none),
         (.p 16 (.fieldAddr 1) [.t 5], none),
         (.p 17 (.fieldAddr 2) [.t 5], none),
         (.build 18 (.agg [.pv .nilp, .pv .nilp, .pv .nilp, .pv .nilp]) [(0, 1, .t 15), (1, 1, .t 16), (2, 1, .t 17), (3, 1, .t 6)], none),
         (.p 19 .id [.c (.pv (.int .i64 0))], none)]))
      (.block 0 (.loop (.kill [2, 4, 5, 6, 18, 19] [2, 5, 6, 14] irExecsGetReply_L1))))
     (.seq (.kill [2, 4, 5, 6] [2, 5, 6, 14] (.region [
         (.p 37 .id [.t 4], none),
         (.call 38 68 [.t 37] [14] [] [], none),
         (.p 36 .id [.t 38], none),
         (.p 39 (.ext 0) [.t 36], none),
         (.p 40 (.ext 1) [.t 36], none),
         (.p 11 .id [.t 39], none),
         (.p 12 .id [.t 40], none)]))
      (.seq (.seq (.kill [2, 4, 5, 6, 11, 12] [2, 5, 6, 14] (.region [
           (.p 41 .id [.t 12], none),
           (.p 42 (.bin .neq) [.t 41, .c (.pv (.int .i64 0))], none)]))
        (.cond (.t 42)
         (.seq (.kill [2, 12] [2] (.region [
             (.build 43 (.pagg [.int .i64 0, .int .i64 0, .int .i64 0, .bool false, .int .i64 0]) [], none),
             (.p 44 .id [.t 12], none),
             (.store (some (5, true)) (some 2) (.t 2) (.t 43), none),
             (.p 3 .id [.t 44], none)]))
          .ret)
         .skip))
       (.seq (.seq (.kill [2, 4, 5, 6, 11] [2, 5, 6, 14] (.region [
            (.load 45 none (some 6) (.t 6), none),
            (.p 46 (.bin .gtr) [.t 45, .c (.pv (.int .i64 1))], none),
            (.p 47 .id [.t 46], none),
            (.p 48 .id [.t 4], some (47, false)),
            (.call 49 47 [.t 48] [14] [] [], some (47, false)),
            (.p 50 (.bin .neq) [.t 49, .c (.pv (.int .i64 0))], some (47, false)),
            (.p 51 .pick [.t 47, .c (.pv (.bool true)), .t 50], none)]))
         (.cond (.t 51)
          (.seq (.kill [2] [2] (.region [
              (.build 52 (.pagg [.int .i64 0, .int .i64 0, .int .i64 0, .bool false, .int .i64 0]) [], none),
              (.store (some (5, true)) (some 2) (.t 2) (.t 52), none),
              (.p 3 .id [.c (.pv (.int .i64 2))], none)]))
           .ret)
          .skip))
        (.seq (.kill [2, 5, 6, 11] [2, 5, 6] (.region [
            (.load 53 none (some 6) (.t 6), none),
            (.p 54 (.bin .eql) [.t 53, .c (.pv (.int .i64 1))], none),
            (.p 55 .id [.t 11], none),
            (.build 56 (.pagg [.bool false, .int .i64 0]) [(0, 1, .t 54), (1, 1, .t 55)], none),
            (.p 57 (.fieldAddr 3) [.t 5], none),
            (.store (some (2, false)) (some 5) (.t 57) (.t 56), none)]))
         (.seq (.kill [2, 5] [2, 5] (.region [
             (.load 58 (some (5, true)) (some 5) (.t 5), none),
             (.store (some (5, true)) (some 2) (.t 2) (.t 58), none),
             (.p 3 .id [.c (.pv (.int .i64 0))], none)]))
          .ret))))))))))
theorem okExecsGetReply : okFn Try.prog Try.f46 irExecsGetReply [.cell 2 (some (5, true)), .t 3] [] 1 = true := by kernel_rfl

-- execs.Put
-- execs.Put: args [34]; lent []; rs [.t 2]; loops: L1 keeps [1, 3, 25, 26] [1]; L2 keeps [3, 34, 35] []
def irExecsPut_L1 : IR := (.seq (.kill [1, 3, 25, 26] [1] (.region [
     (.p 27 (.bin .lss) [.t 26, .c (.pv (.int .i64 3))], none)]))
  (.seq (.cond (.t 27)
    .skip
    (.exit 0))
   (.seq (.block 1 (.seq (.kill [1, 3, 25, 26] [1] (.region [
         (.p 28 (.index 3 1 none) [.t 25, .t 26], none),
         (.mv 5 28, none)]))
      (.kill [1, 3, 5, 25, 26] [1] (.region [
         (.mv 29 3, none),
         (.mv 30 5, none),
         (.call 31 31 [.t 29, .t 30] [] [] [], none),
         (.mv 3 31, none)]))))
    (.kill [1, 3, 25, 26] [1] (.region [
       (.p 32 (.bin .add) [.t 26, .c (.pv (.int .i64 1))], none),
       (.p 26 .id [.t 32], none)])))))
def irExecsPut_L2 : IR := (.seq (.kill [3, 34, 35] [] (.region [
     (.p 36 (.bin .lss) [.t 35, .c (.pv (.int .i64 6))], none)]))
  (.seq (.cond (.t 36)
    .skip
    (.exit 2))
   (.seq (.block 3 (.seq (.kill [3, 34, 35] [] (.region [
         (.p 37 (.index 6 5 (some 5)) [.t 34, .t 35], none),
         (.alloc 7 (.pagg [.int .i64 0, .int .i64 0, .int .i64 0, .bool false, .int .i64 0]), none),
         (.store (some (5, true)) (some 7) (.t 7) (.t 37), none)]))
      (.kill [3, 7, 34, 35] [7] (.region [
         (.mv 38 3, none),
         (.load 39 (some (5, true)) (some 7) (.t 7), none),
         (.call 40 32 [.t 39] [] [] [], none),
         (.call 41 31 [.t 38, .t 40] [] [] [], none),
         (.mv 3 41, none)]))))
    (.kill [3, 34, 35] [] (.region [
       (.p 42 (.bin .add) [.t 35, .c (.pv (.int .i64 1))], none),
       (.p 35 .id [.t 42], none)])))))
def irExecsPut : IR := (.seq (.region [
    (.box 1 (.t 0), none),
    (.p 2 .id [.c (.os 5 1 [])], none)])
 (.seq (.kill [1] [1] (.region [
     (.p 8 (.fieldAddr 0) [.t 1], none),
     (.load 9 none (some 1) (.t 8), none),
     (.p 10 (.conv .u64) [.t 9], none),
     (.call 11 28 [.c (.os 5 1 []), .t 10, .c (.pv (.int .i64 2))] [] [] [], none),
     (.p 12 (.fieldAddr 1) [.t 1], none),
     (.load 13 none (some 1) (.t 12), none),
     (.p 14 (.conv .u64) [.t 13], none),
     (.call 15 28 [.t 11, .t 14, .c (.pv (.int .i64 2))] [] [] [], none),
     (.mv 3 15, none)]))
  (.seq (.seq (.kill [1, 3] [1] (.region [
       (.p 16 (.fieldAddr 2) [.t 1], none),
       (.load 17 (some (2, false)) (some 1) (.t 16), none),
       (.call 18 29 [.t 17] [] [] [], none),
       (.p 19 (.fieldAddr 4) [.t 1], none),
       (.load 20 (some (2, false)) (some 1) (.t 19), none),
       (.call 21 29 [.t 20] [] [] [], none),
       (.p 22 (.fieldAddr 6) [.t 1], none),
       (.load 23 (some (32, false)) (some 1) (.t 22), none),
       (.call 24 30 [.t 23] [] [] [], none),
       (.build 25 (.pagg [.sl 1 [], .sl 1 [], .sl 1 []]) [(0, 1, .t 18), (1, 1, .t 21), (2, 1, .t 24)], none),
       (.p 26 .id [.c (.pv (.int .i64 0))], none)]))
    (.block 0 (.loop (.kill [1, 3, 25, 26] [1] irExecsPut_L1))))
   (.seq (.seq (.kill [1, 3] [1] (.region [
        (.p 33 (.fieldAddr 38) [.t 1], none),
        (.load 34 (some (30, false)) (some 1) (.t 33), none),
        (.p 35 .id [.c (.pv (.int .i64 0))], none)]))
     (.block 2 (.loop (.kill [3, 34, 35] [] irExecsPut_L2))))
    (.seq (.kill [3] [] (.region [
        (.mv 43 3, none),
        (.mv 2 43, none)]))
     .ret)))))
theorem okExecsPut : okFn Try.prog Try.f15 irExecsPut [.t 2] [] 1 = true := by kernel_rfl

-- execs.Get
-- execs.Get: args [51]; lent []; rs [.cell 2 (some (68, true)), .t 3]; loops: L1 keeps [2, 4, 5, 23, 24] [2, 5, 20]; L2 keeps [2, 4, 5, 43, 44] [2, 5, 20]; L3 keeps [2, 4, 5, 79] [2, 5, 20]
def irExecsGet_L1 : IR := (.seq (.kill [2, 4, 5, 23, 24] [2, 5, 20] (.region [
     (.p 25 (.bin .lss) [.t 24, .c (.pv (.int .i64 2))], none)]))
  (.seq (.cond (.t 25)
    .skip
    (.exit 0))
   (.seq (.block 1 (.seq (.kill [2, 4, 5, 23, 24] [2, 5, 20] (.region [
         (.p 26 (.index 2 1 none) [.t 23, .t 24], none),
         (.p 7 .id [.t 26], none)]))
      (.seq (.kill [2, 4, 5, 7, 23, 24] [2, 5, 20] (.region [
          (.p 28 .id [.t 4], none),
          (.call 29 42 [.t 28, .c (.pv (.int .i64 2))] [20] [] [], none),
          (.p 27 .id [.t 29], none),
          (.p 30 (.ext 0) [.t 27], none),
          (.p 31 (.ext 1) [.t 27], none),
          (.p 8 .id [.t 30], none),
          (.p 9 .id [.t 31], none)]))
       (.seq (.seq (.kill [2, 4, 5, 7, 8, 9, 23, 24] [2, 5, 20] (.region [
            (.p 32 .id [.t 9], none),
            (.p 33 (.bin .neq) [.t 32, .c (.pv (.int .i64 0))], none)]))
         (.cond (.t 33)
          (.seq (.kill [2, 9] [2] (.region [
              (.build 34 (.pagg [.int .i64 0, .int .i64 0, .int .i64 0, .int .u16 0, .int .i64 0, .int .u16 0, .bool false, .int .i64 0, .bool false, .int .i64 0, .bool false, .int .i64 0, .bool false, .int .i64 0, .bool false, .int .i64 0, .bool false, .int .i64 0, .bool false, .int .i64 0, .bool false, .int .i64 0, .bool false, .int .i64 0, .bool false, .int .i64 0, .bool false, .int .i64 0, .bool false, .int .i64 0, .bool false, .int .i64 0, .bool false, .int .i64 0, .bool false, .int .i64 0, .bool false, .int .i64 0, .int .i64 0, .int .i64 0, .int .i64 0, .bool false, .int .i64 0, .int .i64 0, .int .i64 0, .int .i64 0, .bool false, .int .i64 0, .int .i64 0, .int .i64 0, .int .i64 0, .bool false, .int .i64 0, .int .i64 0, .int .i64 0, .int .i64 0, .bool false, .int .i64 0, .int .i64 0, .int .i64 0, .int .i64 0, .bool false, .int .i64 0, .int .i64 0, .int .i64 0, .int .i64 0, .bool false, .int .i64 0]) [], none),
              (.p 35 .id [.t 9], none),
              (.store (some (68, true)) (some 2) (.t 2) (.t 34), none),
              (.p 3 .id [.t 35], none)]))
           .ret)
          .skip))
        (.kill [2, 4, 5, 7, 8, 23, 24] [2, 5, 20] (.region [
           (.p 36 .id [.t 7], none),
           (.p 37 .id [.t 8], none),
           (.p 38 (.conv .i64) [.t 37], none),
           (.p 39 .nilc [.t 36], none),
           (.store none (some 5) (.t 39) (.t 38), none)]))))))
    (.kill [2, 4, 5, 23, 24] [2, 5, 20] (.region [
       (.p 40 (.bin .add) [.t 24, .c (.pv (.int .i64 1))], none),
       (.p 24 .id [.t 40], none)])))))
def irExecsGet_L2 : IR := (.seq (.kill [2, 4, 5, 43, 44] [2, 5, 20] (.region [
     (.p 45 (.bin .lss) [.t 44, .c (.pv (.int .i64 2))], none)]))
  (.seq (.cond (.t 45)
    .skip
    (.exit 2))
   (.seq (.block 3 (.seq (.kill [2, 4, 5, 43, 44] [2, 5, 20] (.region [
         (.p 46 (.index 2 1 none) [.t 43, .t 44], none),
         (.p 11 .id [.t 46], none)]))
      (.seq (.kill [2, 4, 5, 11, 43, 44] [2, 5, 20] (.region [
          (.p 48 .id [.t 4], none),
          (.call 49 43 [.t 48] [20] [] [], none),
          (.p 47 .id [.t 49], none),
          (.p 50 (.ext 0) [.t 47], none),
          (.p 51 (.ext 1) [.t 47], none),
          (.alloc 12 (.pagg [.int .i64 0, .int .u16 0]), none),
          (.store (some (2, true)) (some 12) (.t 12) (.t 50), none),
          (.p 13 .id [.t 51], none)]))
       (.seq (.seq (.kill [2, 4, 5, 11, 12, 13, 43, 44] [2, 5, 12, 20] (.region [
            (.p 52 .id [.t 13], none),
            (.p 53 (.bin .neq) [.t 52, .c (.pv (.int .i64 0))], none)]))
         (.cond (.t 53)
          (.seq (.kill [2, 13] [2] (.region [
              (.build 54 (.pagg [.int .i64 0, .int .i64 0, .int .i64 0, .int .u16 0, .int .i64 0, .int .u16 0, .bool false, .int .i64 0, .bool false, .int .i64 0, .bool false, .int .i64 0, .bool false, .int .i64 0, .bool false, .int .i64 0, .bool false, .int .i64 0, .bool false, .int .i64 0, .bool false, .int .i64 0, .bool false, .int .i64 0, .bool false, .int .i64 0, .bool false, .int .i64 0, .bool false, .int .i64 0, .bool false, .int .i64 0, .bool false, .int .i64 0, .bool false, .int .i64 0, .bool false, .int .i64 0, .int .i64 0, .int .i64 0, .int .i64 0, .bool false, .int .i64 0, .int .i64 0, .int .i64 0, .int .i64 0, .bool false, .int .i64 0, .int .i64 0, .int .i64 0, .int .i64 0, .bool false, .int .i64 0, .int .i64 0, .int .i64 0, .int .i64 0, .bool false, .int .i64 0, .int .i64 0, .int .i64 0, .int .i64 0, .bool false, .int .i64 0, .int .i64 0, .int .i64 0, .int .i64 0, .bool false, .int .i64 0]) [], none),
              (.p 55 .id [.t 13], none),
              (.store (some (68, true)) (some 2) (.t 2) (.t 54), none),
              (.p 3 .id [.t 55], none)]))
           .ret)
          .skip))
        (.kill [2, 4, 5, 11, 12, 43, 44] [2, 5, 12, 20] (.region [
           (.p 56 .id [.t 11], none),
           (.load 57 (some (2, true)) (some 12) (.t 12), none),
           (.p 58 .nilc [.t 56], none),
           (.store (some (2, false)) (some 5) (.t 58) (.t 57), none)]))))))
    (.kill [2, 4, 5, 43, 44] [2, 5, 20] (.region [
       (.p 59 (.bin .add) [.t 44, .c (.pv (.int .i64 1))], none),
       (.p 44 .id [.t 59], none)])))))
def irExecsGet_L3 : IR := (.seq (.kill [2, 4, 5, 79] [2, 5, 20] (.region [
     (.p 80 (.bin .lss) [.t 79, .c (.pv (.int .i64 6))], none)]))
  (.seq (.cond (.t 80)
    .skip
    (.exit 4))
   (.seq (.block 5 (.seq (.kill [2, 4, 5, 79] [2, 5, 20] (.region [
         (.p 81 .id [.t 79], none),
         (.p 16 .id [.t 81], none)]))
      (.seq (.kill [2, 4, 5, 16, 79] [2, 5, 20] (.region [
          (.p 83 .id [.t 4], none),
          (.call 84 44 [.t 83, .c (.pv (.int .i64 1000))] [20] [] [], none),
          (.p 82 .id [.t 84], none),
          (.p 85 (.ext 0) [.t 82], none),
          (.p 86 (.ext 1) [.t 82], none),
          (.mv 17 85, none),
          (.p 18 .id [.t 86], none)]))
       (.seq (.seq (.kill [2, 4, 5, 16, 17, 18, 79] [2, 5, 20] (.region [
            (.p 87 .id [.t 18], none),
            (.p 88 (.bin .neq) [.t 87, .c (.pv (.int .i64 0))], none)]))
         (.cond (.t 88)
          (.seq (.kill [2, 18] [2] (.region [
              (.build 89 (.pagg [.int .i64 0, .int .i64 0, .int .i64 0, .int .u16 0, .int .i64 0, .int .u16 0, .bool false, .int .i64 0, .bool false, .int .i64 0, .bool false, .int .i64 0, .bool false, .int .i64 0, .bool false, .int .i64 0, .bool false, .int .i64 0, .bool false, .int .i64 0, .bool false, .int .i64 0, .bool false, .int .i64 0, .bool false, .int .i64 0, .bool false, .int .i64 0, .bool false, .int .i64 0, .bool false, .int .i64 0, .bool false, .int .i64 0, .bool false, .int .i64 0, .bool false, .int .i64 0, .int .i64 0, .int .i64 0, .int .i64 0, .bool false, .int .i64 0, .int .i64 0, .int .i64 0, .int .i64 0, .bool false, .int .i64 0, .int .i64 0, .int .i64 0, .int .i64 0, .bool false, .int .i64 0, .int .i64 0, .int .i64 0, .int .i64 0, .bool false, .int .i64 0, .int .i64 0, .int .i64 0, .int .i64 0, .bool false, .int .i64 0, .int .i64 0, .int .i64 0, .int .i64 0, .bool false, .int .i64 0]) [], none),
              (.p 90 .id [.t 18], none),
              (.store (some (68, true)) (some 2) (.t 2) (.t 89), none),
              (.p 3 .id [.t 90], none)]))
           .ret)
          .skip))
        (.seq (.kill [2, 4, 5, 16, 17, 79] [2, 5, 20] (.region [
            (.p 92 .id [.t 16], none),
            (.mv 93 17, none),
            (.call 94 46 [.t 93] [] [] [], none),
            (.p 91 .id [.t 94], none),
            (.p 95 (.ext 0) [.t 91], none),
            (.p 96 (.ext 1) [.t 91], none),
            (.p 97 (.fieldAddr 38) [.t 5], none),
            (.p 98 (.indexAddr (some 6) 5) [.t 97, .t 92], none),
            (.store (some (5, false)) (some 5) (.t 98) (.t 95), none),
            (.p 18 .id [.t 96], none)]))
         (.seq (.kill [2, 4, 5, 18, 79] [2, 5, 20] (.region [
             (.p 99 .id [.t 18], none),
             (.p 100 (.bin .neq) [.t 99, .c (.pv (.int .i64 0))], none)]))
          (.cond (.t 100)
           (.seq (.kill [2, 18] [2] (.region [
               (.build 101 (.pagg [.int .i64 0, .int .i64 0, .int .i64 0, .int .u16 0, .int .i64 0, .int .u16 0, .bool false, .int .i64 0, .bool false, .int .i64 0, .bool false, .int .i64 0, .bool false, .int .i64 0, .bool false, .int .i64 0, .bool false, .int .i64 0, .bool false, .int .i64 0, .bool false, .int .i64 0, .bool false, .int .i64 0, .bool false, .int .i64 0, .bool false, .int .i64 0, .bool false, .int .i64 0, .bool false, .int .i64 0, .bool false, .int .i64 0, .bool false, .int .i64 0, .bool false, .int .i64 0, .int .i64 0, .int .i64 0, .int .i64 0, .bool false, .int .i64 0, .int .i64 0, .int .i64 0, .int .i64 0, .bool false, .int .i64 0, .int .i64 0, .int .i64 0, .int .i64 0, .bool false, .int .i64 0, .int .i64 0, .int .i64 0, .int .i64 0, .bool false, .int .i64 0, .int .i64 0, .int .i64 0, .int .i64 0, .bool false, .int .i64 0, .int .i64 0, .int .i64 0, .int .i64 0, .bool false, .int .i64 0]) [], none),
               (.p 102 .id [.t 18], none),
               (.store (some (68, true)) (some 2) (.t 2) (.t 101), none),
               (.p 3 .id [.t 102], none)]))
            .ret)
           .skip)))))))
    (.kill [2, 4, 5, 79] [2, 5, 20] (.region [
       (.p 103 (.bin .add) [.t 79, .c (.pv (.int .i64 1))], none),
       (.p 79 .id [.t 103], none)])))))
def irExecsGet : IR := (.seq (.region [
    (.alloc 2 (.pagg [.int .i64 0, .int .i64 0, .int .i64 0, .int .u16 0, .int .i64 0, .int .u16 0, .bool false, .int .i64 0, .bool false, .int .i64 0, .bool false, .int .i64 0, .bool false, .int .i64 0, .bool false, .int .i64 0, .bool false, .int .i64 0, .bool false, .int .i64 0, .bool false, .int .i64 0, .bool false, .int .i64 0, .bool false, .int .i64 0, .bool false, .int .i64 0, .bool false, .int .i64 0, .bool false, .int .i64 0, .bool false, .int .i64 0, .bool false, .int .i64 0, .bool false, .int .i64 0, .int .i64 0, .int .i64 0, .int .i64 0, .bool false, .int .i64 0, .int .i64 0, .int .i64 0, .int .i64 0, .bool false, .int .i64 0, .int .i64 0, .int .i64 0, .int .i64 0, .bool false, .int .i64 0, .int .i64 0, .int .i64 0, .int .i64 0, .bool false, .int .i64 0, .int .i64 0, .int .i64 0, .int .i64 0, .bool false, .int .i64 0, .int .i64 0, .int .i64 0, .int .i64 0, .bool false, .int .i64 0]), none),
    (.p 3 .id [.c (.pv (.int .i64 0))], none)])
 (.seq (.kill [0, 2] [2] (.region [
     (.mv 19 0, none),
     (.call 20 41 [.t 19] [] [20] [], none),
     (.p 4 .id [.t 20], none)]))
  (.seq (.kill [2, 4] [2, 20] (.region [
      (.alloc 5 (.pagg [.int .i64 0, .int .i64 0, .int .i64 0, .int .u16 0, .int .i64 0, .int .u16 0, .bool false, .int .i64 0, .bool false, .int .i64 0, .bool false, .int .i64 0, .bool false, .int .i64 0, .bool false, .int .i64 0, .bool false, .int .i64 0, .bool false, .int .i64 0, .bool false, .int .i64 0, .bool false, .int .i64 0, .bool false, .int .i64 0, .bool false, .int .i64 0, .bool false, .int .i64 0, .bool false, .int .i64 0, .bool false, .int .i64 0, .bool false, .int .i64 0, .bool false, .int .i64 0, .int .i64 0, .int .i64 0, .int .i64 0, .bool false, .int .i64 0, .int .i64 0, .int .i64 0, .int .i64 0, .bool false, .int .i64 0, .int .i64 0, .int .i64 0, .int .i64 0, .bool false, .int .i64 0, .int .i64 0, .int .i64 0, .int .i64 0, .bool false, .int .i64 0, .int .i64 0, .int .i64 0, .int .i64 0, .bool false, .int .i64 0, .int .i64 0, .int .i64 0, .int .i64 0, .bool false, .int .i64 0]), none)]))
   (.seq (.seq (.kill [2, 4, 5] [2, 5, 20] (.region [
        (.p 21 (.fieldAddr 0) [.t 5], none),
        (.p 22 (.fieldAddr 1) [.t 5], none),
        (.build 23 (.agg [.pv .nilp, .pv .nilp]) [(0, 1, .t 21), (1, 1, .t 22)], none),
        (.p 24 .id [.c (.pv (.int .i64 0))], none)]))
     (.block 0 (.loop (.kill [2, 4, 5, 23, 24] [2, 5, 20] irExecsGet_L1))))
    (.seq (.seq (.kill [2, 4, 5] [2, 5, 20] (.region [
         (.p 41 (.fieldAddr 2) [.t 5], none),
         (.p 42 (.fieldAddr 4) [.t 5], none),
         (.build 43 (.agg [.pv .nilp, .pv .nilp]) [(0, 1, .t 41), (1, 1, .t 42)], none),
         (.p 44 .id [.c (.pv (.int .i64 0))], none)]))
      (.block 2 (.loop (.kill [2, 4, 5, 43, 44] [2, 5, 20] irExecsGet_L2))))
     (.seq (.kill [2, 4, 5] [2, 5, 20] (.region [
         (.p 61 .id [.t 4], none),
         (.call 62 44 [.t 61, .c (.pv (.int .i64 1000))] [20] [] [], none),
         (.p 60 .id [.t 62], none),
         (.p 63 (.ext 0) [.t 60], none),
         (.p 64 (.ext 1) [.t 60], none),
         (.mv 14 63, none),
         (.p 15 .id [.t 64], none)]))
      (.seq (.seq (.kill [2, 4, 5, 14, 15] [2, 5, 20] (.region [
           (.p 65 .id [.t 15], none),
           (.p 66 (.bin .neq) [.t 65, .c (.pv (.int .i64 0))], none)]))
        (.cond (.t 66)
         (.seq (.kill [2, 15] [2] (.region [
             (.build 67 (.pagg [.int .i64 0, .int .i64 0, .int .i64 0, .int .u16 0, .int .i64 0, .int .u16 0, .bool false, .int .i64 0, .bool false, .int .i64 0, .bool false, .int .i64 0, .bool false, .int .i64 0, .bool false, .int .i64 0, .bool false, .int .i64 0, .bool false, .int .i64 0, .bool false, .int .i64 0, .bool false, .int .i64 0, .bool false, .int .i64 0, .bool false, .int .i64 0, .bool false, .int .i64 0, .bool false, .int .i64 0, .bool false, .int .i64 0, .bool false, .int .i64 0, .bool false, .int .i64 0, .int .i64 0, .int .i64 0, .int .i64 0, .bool false, .int .i64 0, .int .i64 0, .int .i64 0, .int .i64 0, .bool false, .int .i64 0, .int .i64 0, .int .i64 0, .int .i64 0, .bool false, .int .i64 0, .int .i64 0, .int .i64 0, .int .i64 0, .bool false, .int .i64 0, .int .i64 0, .int .i64 0, .int .i64 0, .bool false, .int .i64 0, .int .i64 0, .int .i64 0, .int .i64 0, .bool false, .int .i64 0]) [], none),
             (.p 68 .id [.t 15], none),
             (.store (some (68, true)) (some 2) (.t 2) (.t 67), none),
             (.p 3 .id [.t 68], none)]))
          .ret)
         .skip))
       (.seq (.seq (.kill [2, 4, 5, 14] [2, 5, 20] (.region [
            (.mv 70 14, none),
            (.call 71 45 [.t 70] [] [] [], none),
            (.p 69 .id [.t 71], none),
            (.p 72 (.ext 0) [.t 69], none),
            (.p 73 (.ext 1) [.t 69], none),
            (.p 74 (.fieldAddr 6) [.t 5], none),
            (.store (some (32, false)) (some 5) (.t 74) (.t 72), none),
            (.p 15 .id [.t 73], none)]))
         (.seq (.kill [2, 4, 5, 15] [2, 5, 20] (.region [
             (.p 75 .id [.t 15], none),
             (.p 76 (.bin .neq) [.t 75, .c (.pv (.int .i64 0))], none)]))
          (.cond (.t 76)
           (.seq (.kill [2, 15] [2] (.region [
               (.build 77 (.pagg [.int .i64 0, .int .i64 0, .int .i64 0, .int .u16 0, .int .i64 0, .int .u16 0, .bool false, .int .i64 0, .bool false, .int .i64 0, .bool false, .int .i64 0, .bool false, .int .i64 0, .bool false, .int .i64 0, .bool false, .int .i64 0, .bool false, .int .i64 0, .bool false, .int .i64 0, .bool false, .int .i64 0, .bool false, .int .i64 0, .bool false, .int .i64 0, .bool false, .int .i64 0, .bool false, .int .i64 0, .bool false, .int .i64 0, .bool false, .int .i64 0, .bool false, .int .i64 0, .int .i64 0, .int .i64 0, .int .i64 0, .bool false, .int .i64 0, .int .i64 0, .int .i64 0, .int .i64 0, .bool false, .int .i64 0, .int .i64 0, .int .i64 0, .int .i64 0, .bool false, .int .i64 0, .int .i64 0, .int .i64 0, .int .i64 0, .bool false, .int .i64 0, .int .i64 0, .int .i64 0, .int .i64 0, .bool false, .int .i64 0, .int .i64 0, .int .i64 0, .int .i64 0, .bool false, .int .i64 0]) [], none),
               (.p 78 .id [.t 15], none),
               (.store (some (68, true)) (some 2) (.t 2) (.t 77), none),
               (.p 3 .id [.t 78], none)]))
            .ret)
           .skip)))
        (.seq (.seq (.kill [2, 4, 5] [2, 5, 20] (.region [
             (.p 79 .id [.c (.pv (.int .i64 0))], none)]))
          (.block 4 (.loop (.kill [2, 4, 5, 79] [2, 5, 20] irExecsGet_L3))))
         (.seq (.seq (.kill [2, 4, 5] [2, 5, 20] (.region [
              (.p 104 .id [.t 4], none),
              (.call 105 47 [.t 104] [20] [] [], none),
              (.p 106 (.bin .neq) [.t 105, .c (.pv (.int .i64 0))], none)]))
           (.cond (.t 106)
            (.seq (.kill [2] [2] (.region [
                (.build 107 (.pagg [.int .i64 0, .int .i64 0, .int .i64 0, .int .u16 0, .int .i64 0, .int .u16 0, .bool false, .int .i64 0, .bool false, .int .i64 0, .bool false, .int .i64 0, .bool false, .int .i64 0, .bool false, .int .i64 0, .bool false, .int .i64 0, .bool false, .int .i64 0, .bool false, .int .i64 0, .bool false, .int .i64 0, .bool false, .int .i64 0, .bool false, .int .i64 0, .bool false, .int .i64 0, .bool false, .int .i64 0, .bool false, .int .i64 0, .bool false, .int .i64 0, .bool false, .int .i64 0, .int .i64 0, .int .i64 0, .int .i64 0, .bool false, .int .i64 0, .int .i64 0, .int .i64 0, .int .i64 0, .bool false, .int .i64 0, .int .i64 0, .int .i64 0, .int .i64 0, .bool false, .int .i64 0, .int .i64 0, .int .i64 0, .int .i64 0, .bool false, .int .i64 0, .int .i64 0, .int .i64 0, .int .i64 0, .bool false, .int .i64 0, .int .i64 0, .int .i64 0, .int .i64 0, .bool false, .int .i64 0]) [], none),
                (.store (some (68, true)) (some 2) (.t 2) (.t 107), none),
                (.p 3 .id [.c (.pv (.int .i64 2))], none)]))
             .ret)
            .skip))
          (.seq (.kill [2, 5] [2, 5] (.region [
              (.load 108 (some (68, true)) (some 5) (.t 5), none),
              (.store (some (68, true)) (some 2) (.t 2) (.t 108), none),
              (.p 3 .id [.c (.pv (.int .i64 0))], none)]))
           .ret)))))))))))
theorem okExecsGet : okFn Try.prog Try.f20 irExecsGet [.cell 2 (some (68, true)), .t 3] [] 1 = true := by kernel_rfl

-- execs.view
-- execs.view: args [82]; lent [0]; rs [.cell 2 (some (2, true)), .t 3]; loops: 
def irExecsView : IR := (.seq (.region [
    (.alloc 2 (.pagg [.int .i64 0, .int .u16 0]), none),
    (.p 3 .id [.c (.pv (.int .i64 0))], none)])
 (.seq (.kill [0, 2] [2, 1000] (.region [
     (.p 7 .id [.t 0], none),
     (.call 8 44 [.t 7, .c (.pv (.int .i64 1000))] [1000] [] [], none),
     (.p 6 .id [.t 8], none),
     (.p 9 (.ext 0) [.t 6], none),
     (.p 10 (.ext 1) [.t 6], none),
     (.mv 4 9, none),
     (.p 5 .id [.t 10], none)]))
  (.seq (.seq (.kill [0, 2, 4, 5] [2, 1000] (.region [
       (.p 11 .id [.t 5], none),
       (.p 12 (.bin .neq) [.t 11, .c (.pv (.int .i64 0))], none)]))
    (.cond (.t 12)
     (.seq (.kill [0, 2, 5] [2, 1000] (.region [
         (.build 13 (.pagg [.int .i64 0, .int .u16 0]) [], none),
         (.p 14 .id [.t 5], none),
         (.store (some (2, true)) (some 2) (.t 2) (.t 13), none),
         (.p 3 .id [.t 14], none)]))
      .ret)
     .skip))
   (.seq (.kill [0, 2, 4] [2, 1000] (.region [
       (.mv 15 4, none),
       (.call 16 66 [.t 15] [] [] [], none),
       (.p 17 (.ext 0) [.t 16], none),
       (.p 18 (.ext 1) [.t 16], none),
       (.store (some (2, true)) (some 2) (.t 2) (.t 17), none),
       (.p 3 .id [.t 18], none)]))
    .ret))))
theorem okExecsView : okFn Try.prog Try.f43 irExecsView [.cell 2 (some (2, true)), .t 3] [] 1 = true := by kernel_rfl

-- execs.Digest
-- execs.Digest: args [34]; lent []; rs [.cell 2 (some (32, true))]; loops: 
def irExecsDigest : IR := (.seq (.region [
    (.box 1 (.t 0), none),
    (.alloc 2 (.pagg (List.replicate 32 (.int .u8 0))), none)])
 (.seq (.kill [1, 2] [1, 2] (.region [
     (.load 3 (some (68, true)) (some 1) (.t 1), none),
     (.call 4 15 [.t 3] [] [] [], none),
     (.call 5 39 [.t 4] [] [] [], none),
     (.store (some (32, true)) (some 2) (.t 2) (.t 5), none)]))
  .ret))
theorem okExecsDigest : okFn Try.prog Try.f18 irExecsDigest [.cell 2 (some (32, true))] [] 1 = true := by kernel_rfl

-- consistoryref15.PutReply
-- consistoryref15.PutReply: args [31]; lent []; rs [.t 2]; loops: 
def irRef15PutReply : IR := (.seq (.region [
    (.box 1 (.t 0), none),
    (.p 2 .id [.c (.os 5 1 [])], none)])
 (.seq (.kill [1] [1] (.region [
     (.p 3 .id [.c (.pv (.int .u8 0))], none)]))
  (.seq (.seq (.kill [1, 3] [1] (.region [
       (.p 5 (.fieldAddr 3) [.t 1], none),
       (.p 6 (.fieldAddr 0) [.t 5], none),
       (.load 7 none (some 1) (.t 6), none)]))
    (.cond (.t 7)
     (.kill [1] [1] (.region [
        (.p 3 .id [.c (.pv (.int .u8 1))], none)]))
     .skip))
   (.seq (.kill [1, 3] [1] (.region [
       (.p 4 .id [.c (.os 5 1 [])], none)]))
    (.seq (.kill [1, 3, 4] [1] (.region [
        (.mv 8 4, none),
        (.p 9 (.fieldAddr 0) [.t 1], none),
        (.load 10 none (some 1) (.t 9), none),
        (.p 11 (.conv .u8) [.t 10], none),
        (.p 12 (.fieldAddr 1) [.t 1], none),
        (.load 13 none (some 1) (.t 12), none),
        (.p 14 (.conv .u8) [.t 13], none),
        (.p 15 (.fieldAddr 2) [.t 1], none),
        (.load 16 none (some 1) (.t 15), none),
        (.p 17 (.conv .u8) [.t 16], none),
        (.p 18 .id [.t 3], none),
        (.bslice 19 5 1 4 [.int .u8 0] [(0, .t 11), (1, .t 14), (2, .t 17), (3, .t 18)], none),
        (.app 20 5 1 8 none (.t 19), none),
        (.mv 4 20, none)]))
     (.seq (.kill [1, 4] [1] (.region [
         (.mv 21 4, none),
         (.p 22 (.fieldAddr 3) [.t 1], none),
         (.p 23 (.fieldAddr 1) [.t 22], none),
         (.load 24 none (some 1) (.t 23), none),
         (.call 25 58 [.t 24] [] [] [], none),
         (.call 26 57 [.t 25] [] [] [], none),
         (.app 27 5 1 21 none (.t 26), none),
         (.mv 4 27, none)]))
      (.seq (.kill [4] [] (.region [
          (.mv 28 4, none),
          (.mv 2 28, none)]))
       .ret)))))))
theorem okRef15PutReply : okFn Try.prog Try.f38 irRef15PutReply [.t 2] [] 1 = true := by kernel_rfl

-- consistoryref15.Put
-- consistoryref15.Put: args [34]; lent []; rs [.t 2]; loops: L1 keeps [1, 3, 4] [1]
def irRef15Put_L1 : IR := (.seq (.seq (.kill [1, 3, 4] [1] (.region [
      (.p 32 .id [.t 4], none),
      (.p 33 (.bin .lss) [.t 32, .c (.pv (.int .i64 6))], none)]))
   (.cond (.t 33)
    .skip
    (.exit 0)))
  (.seq (.block 1 (.kill [1, 3, 4] [1] (.region [
       (.mv 36 3, none),
       (.p 37 .id [.t 4], none),
       (.p 38 (.fieldAddr 38) [.t 1], none),
       (.p 39 (.indexAddr (some 6) 5) [.t 38, .t 37], none),
       (.load 40 (some (5, false)) (some 1) (.t 39), none),
       (.call 41 38 [.t 40] [] [] [], none),
       (.call 42 35 [.t 41] [] [] [], none),
       (.app 43 5 1 36 none (.t 42), none),
       (.mv 3 43, none)])))
   (.kill [1, 3, 4] [1] (.region [
      (.p 34 .id [.t 4], none),
      (.p 35 (.bin .add) [.t 34, .c (.pv (.int .i64 1))], none),
      (.p 4 .id [.t 35], none)]))))
def irRef15Put : IR := (.seq (.region [
    (.box 1 (.t 0), none),
    (.p 2 .id [.c (.os 5 1 [])], none)])
 (.seq (.kill [1] [1] (.region [
     (.p 5 (.fieldAddr 0) [.t 1], none),
     (.load 6 none (some 1) (.t 5), none),
     (.p 7 (.conv .u64) [.t 6], none),
     (.call 8 34 [.t 7, .c (.pv (.int .i64 2))] [] [] [], none),
     (.p 9 (.fieldAddr 1) [.t 1], none),
     (.load 10 none (some 1) (.t 9), none),
     (.p 11 (.conv .u64) [.t 10], none),
     (.call 12 34 [.t 11, .c (.pv (.int .i64 2))] [] [] [], none),
     (.call 13 33 [.t 8, .t 12] [] [] [], none),
     (.mv 3 13, none)]))
  (.seq (.kill [1, 3] [1] (.region [
      (.mv 14 3, none),
      (.p 15 (.fieldAddr 2) [.t 1], none),
      (.load 16 (some (2, false)) (some 1) (.t 15), none),
      (.call 17 36 [.t 16] [] [] [], none),
      (.call 18 35 [.t 17] [] [] [], none),
      (.app 19 5 1 14 none (.t 18), none),
      (.mv 3 19, none)]))
   (.seq (.kill [1, 3] [1] (.region [
       (.mv 20 3, none),
       (.p 21 (.fieldAddr 4) [.t 1], none),
       (.load 22 (some (2, false)) (some 1) (.t 21), none),
       (.call 23 36 [.t 22] [] [] [], none),
       (.call 24 35 [.t 23] [] [] [], none),
       (.app 25 5 1 20 none (.t 24), none),
       (.mv 3 25, none)]))
    (.seq (.kill [1, 3] [1] (.region [
        (.mv 26 3, none),
        (.p 27 (.fieldAddr 6) [.t 1], none),
        (.load 28 (some (32, false)) (some 1) (.t 27), none),
        (.call 29 37 [.t 28] [] [] [], none),
        (.call 30 35 [.t 29] [] [] [], none),
        (.app 31 5 1 26 none (.t 30), none),
        (.mv 3 31, none)]))
     (.seq (.seq (.kill [1, 3] [1] (.region [
          (.p 4 .id [.c (.pv (.int .i64 0))], none)]))
       (.block 0 (.loop (.kill [1, 3, 4] [1] irRef15Put_L1))))
      (.seq (.kill [3] [] (.region [
          (.mv 44 3, none),
          (.mv 2 44, none)]))
       .ret)))))))
theorem okRef15Put : okFn Try.prog Try.f17 irRef15Put [.t 2] [] 1 = true := by kernel_rfl

-- consistoryref15.Digest
-- consistoryref15.Digest: args [34]; lent []; rs [.cell 2 (some (32, true))]; loops: 
def irRef15Digest : IR := (.seq (.region [
    (.box 1 (.t 0), none),
    (.alloc 2 (.pagg (List.replicate 32 (.int .u8 0))), none)])
 (.seq (.kill [1, 2] [1, 2] (.region [
     (.load 3 (some (68, true)) (some 1) (.t 1), none),
     (.call 4 17 [.t 3] [] [] [], none),
     (.call 5 40 [.t 4] [] [] [], none),
     (.store (some (32, true)) (some 2) (.t 2) (.t 5), none)]))
  .ret))
theorem okRef15Digest : okFn Try.prog Try.f19 irRef15Digest [.cell 2 (some (32, true))] [] 1 = true := by kernel_rfl

-- consistoryref15.Fits
-- consistoryref15.Fits: args [34]; lent []; rs [.t 2]; loops: L1 keeps [1, 3] [1]; L2 keeps [1, 4] [1]
def irRef15Fits_L1 : IR := (.seq (.seq (.kill [1, 3] [1] (.region [
      (.p 36 .id [.t 3], none),
      (.p 37 (.bin .lss) [.t 36, .c (.pv (.int .i64 16))], none)]))
   (.cond (.t 37)
    .skip
    (.exit 0)))
  (.seq (.block 1 (.seq (.kill [1, 3] [1] (.region [
        (.p 40 .id [.t 3], none),
        (.p 41 (.fieldAddr 6) [.t 1], none),
        (.p 42 (.indexAddr (some 16) 2) [.t 41, .t 40], none),
        (.p 43 (.fieldAddr 0) [.t 42], none),
        (.load 44 none (some 1) (.t 43), none),
        (.p 45 (.un .not) [.t 44], none),
        (.p 46 .id [.t 45], none),
        (.p 47 .id [.t 3], some (46, true)),
        (.p 48 (.fieldAddr 6) [.t 1], some (46, true)),
        (.p 49 (.indexAddr (some 16) 2) [.t 48, .t 47], some (46, true)),
        (.p 50 (.fieldAddr 1) [.t 49], some (46, true)),
        (.load 51 none (some 1) (.t 50), some (46, true)),
        (.p 52 (.bin .neq) [.t 51, .c (.pv (.int .i64 0))], some (46, true)),
        (.p 53 .pick [.t 46, .t 52, .c (.pv (.bool false))], none)]))
     (.cond (.t 53)
      (.seq (.kill [] [] (.region [
          (.p 2 .id [.c (.pv (.bool false))], none)]))
       .ret)
      .skip)))
   (.kill [1, 3] [1] (.region [
      (.p 38 .id [.t 3], none),
      (.p 39 (.bin .add) [.t 38, .c (.pv (.int .i64 1))], none),
      (.p 3 .id [.t 39], none)]))))
def irRef15Fits_L2 : IR := (.seq (.seq (.kill [1, 4] [1] (.region [
      (.p 54 .id [.t 4], none),
      (.p 55 (.bin .lss) [.t 54, .c (.pv (.int .i64 6))], none)]))
   (.cond (.t 55)
    .skip
    (.exit 2)))
  (.seq (.block 3 (.seq (.kill [1, 4] [1] (.region [
        (.p 58 .id [.t 4], none),
        (.p 59 (.fieldAddr 38) [.t 1], none),
        (.p 60 (.indexAddr (some 6) 5) [.t 59, .t 58], none),
        (.load 61 (some (5, false)) (some 1) (.t 60), none),
        (.alloc 5 (.pagg [.int .i64 0, .int .i64 0, .int .i64 0, .bool false, .int .i64 0]), none),
        (.store (some (5, true)) (some 5) (.t 5) (.t 61), none)]))
     (.seq (.kill [1, 4, 5] [1, 5] (.region [
         (.p 62 (.fieldAddr 0) [.t 5], none),
         (.load 63 none (some 5) (.t 62), none),
         (.p 64 (.bin .lss) [.t 63, .c (.pv (.int .i64 0))], none),
         (.p 65 .id [.t 64], none),
         (.p 66 (.fieldAddr 0) [.t 5], some (65, false)),
         (.load 67 none (some 5) (.t 66), some (65, false)),
         (.p 68 (.bin .gtr) [.t 67, .c (.pv (.int .i64 255))], some (65, false)),
         (.p 69 .pick [.t 65, .c (.pv (.bool true)), .t 68], none),
         (.p 70 .id [.t 69], none),
         (.p 71 (.fieldAddr 1) [.t 5], some (70, false)),
         (.load 72 none (some 5) (.t 71), some (70, false)),
         (.p 73 (.bin .lss) [.t 72, .c (.pv (.int .i64 0))], some (70, false)),
         (.p 74 .pick [.t 70, .c (.pv (.bool true)), .t 73], none),
         (.p 75 .id [.t 74], none),
         (.p 76 (.fieldAddr 1) [.t 5], some (75, false)),
         (.load 77 none (some 5) (.t 76), some (75, false)),
         (.p 78 (.bin .gtr) [.t 77, .c (.pv (.int .i64 255))], some (75, false)),
         (.p 79 .pick [.t 75, .c (.pv (.bool true)), .t 78], none),
         (.p 80 .id [.t 79], none),
         (.p 81 (.fieldAddr 2) [.t 5], some (80, false)),
         (.load 82 none (some 5) (.t 81), some (80, false)),
         (.p 83 (.bin .lss) [.t 82, .c (.pv (.int .i64 0))], some (80, false)),
         (.p 84 .pick [.t 80, .c (.pv (.bool true)), .t 83], none),
         (.p 85 .id [.t 84], none),
         (.p 86 (.fieldAddr 2) [.t 5], some (85, false)),
         (.load 87 none (some 5) (.t 86), some (85, false)),
         (.p 88 (.bin .gtr) [.t 87, .c (.pv (.int .i64 255))], some (85, false)),
         (.p 89 .pick [.t 85, .c (.pv (.bool true)), .t 88], none)]))
      (.cond (.t 89)
       (.seq (.kill [] [] (.region [
           (.p 2 .id [.c (.pv (.bool false))], none)]))
        .ret)
       .skip))))
   (.kill [1, 4] [1] (.region [
      (.p 56 .id [.t 4], none),
      (.p 57 (.bin .add) [.t 56, .c (.pv (.int .i64 1))], none),
      (.p 4 .id [.t 57], none)]))))
def irRef15Fits : IR := (.seq (.region [
    (.box 1 (.t 0), none),
    (.p 2 .id [.c (.pv (.bool false))], none)])
 (.seq (.seq (.kill [1] [1] (.region [
      (.p 6 (.fieldAddr 0) [.t 1], none),
      (.load 7 none (some 1) (.t 6), none),
      (.p 8 (.bin .lss) [.t 7, .c (.pv (.int .i64 0))], none),
      (.p 9 .id [.t 8], none),
      (.p 10 (.fieldAddr 0) [.t 1], some (9, false)),
      (.load 11 none (some 1) (.t 10), some (9, false)),
      (.p 12 (.bin .gtr) [.t 11, .c (.pv (.int .i64 65535))], some (9, false)),
      (.p 13 .pick [.t 9, .c (.pv (.bool true)), .t 12], none),
      (.p 14 .id [.t 13], none),
      (.p 15 (.fieldAddr 1) [.t 1], some (14, false)),
      (.load 16 none (some 1) (.t 15), some (14, false)),
      (.p 17 (.bin .lss) [.t 16, .c (.pv (.int .i64 0))], some (14, false)),
      (.p 18 .pick [.t 14, .c (.pv (.bool true)), .t 17], none),
      (.p 19 .id [.t 18], none),
      (.p 20 (.fieldAddr 1) [.t 1], some (19, false)),
      (.load 21 none (some 1) (.t 20), some (19, false)),
      (.p 22 (.bin .gtr) [.t 21, .c (.pv (.int .i64 65535))], some (19, false)),
      (.p 23 .pick [.t 19, .c (.pv (.bool true)), .t 22], none),
      (.p 24 .id [.t 23], none),
      (.p 25 (.fieldAddr 2) [.t 1], some (24, false)),
      (.load 26 (some (2, false)) (some 1) (.t 25), some (24, false)),
      (.call 27 48 [.t 26] [] [] [], some (24, false)),
      (.p 28 (.un .not) [.t 27], some (24, false)),
      (.p 29 .pick [.t 24, .c (.pv (.bool true)), .t 28], none),
      (.p 30 .id [.t 29], none),
      (.p 31 (.fieldAddr 4) [.t 1], some (30, false)),
      (.load 32 (some (2, false)) (some 1) (.t 31), some (30, false)),
      (.call 33 48 [.t 32] [] [] [], some (30, false)),
      (.p 34 (.un .not) [.t 33], some (30, false)),
      (.p 35 .pick [.t 30, .c (.pv (.bool true)), .t 34], none)]))
   (.cond (.t 35)
    (.seq (.kill [] [] (.region [
        (.p 2 .id [.c (.pv (.bool false))], none)]))
     .ret)
    .skip))
  (.seq (.seq (.kill [1] [1] (.region [
       (.p 3 .id [.c (.pv (.int .i64 0))], none)]))
    (.block 0 (.loop (.kill [1, 3] [1] irRef15Fits_L1))))
   (.seq (.seq (.kill [1] [1] (.region [
        (.p 4 .id [.c (.pv (.int .i64 0))], none)]))
     (.block 2 (.loop (.kill [1, 4] [1] irRef15Fits_L2))))
    (.seq (.kill [] [] (.region [
        (.p 2 .id [.c (.pv (.bool true))], none)]))
     .ret)))))
theorem okRef15Fits : okFn Try.prog Try.f21 irRef15Fits [.t 2] [] 1 = true := by kernel_rfl

-- consistorylaw15.ExecsBytes
-- consistorylaw15.ExecsBytes: args [34]; lent []; rs [.t 2]; loops: 
def irLaw15ExecsBytes : IR := (.seq (.region [
    (.box 1 (.t 0), none),
    (.p 2 .id [.c (.pv (.bool false))], none)])
 (.seq (.seq (.kill [1] [1] (.region [
      (.call 6 8 [] [] [] [], none),
      (.p 7 (.un .not) [.t 6], none)]))
   (.cond (.t 7)
    (.seq (.kill [] [] (.region [
        (.p 2 .id [.c (.pv (.bool false))], none)]))
     .ret)
    .skip))
  (.seq (.kill [1] [1] (.region [
      (.load 8 (some (68, true)) (some 1) (.t 1), none),
      (.call 9 15 [.t 8] [] [] [], none),
      (.mv 3 9, none)]))
   (.seq (.seq (.kill [1, 3] [1] (.region [
        (.p 10 .id [.t 3], none),
        (.load 11 (some (68, true)) (some 1) (.t 1), none),
        (.call 12 17 [.t 11] [] [] [], none),
        (.call 13 16 [.t 10, .t 12] [] [] [], none),
        (.p 14 (.un .not) [.t 13], none),
        (.p 15 .id [.t 14], none),
        (.load 16 (some (68, true)) (some 1) (.t 1), some (15, false)),
        (.call 17 18 [.t 16] [] [] [], some (15, false)),
        (.load 18 (some (68, true)) (some 1) (.t 1), some (15, false)),
        (.call 19 19 [.t 18] [] [] [], some (15, false)),
        (.p 20 (.aeq true 32 .u8) [.t 17, .t 19], some (15, false)),
        (.p 21 .pick [.t 15, .c (.pv (.bool true)), .t 20], none)]))
     (.cond (.t 21)
      (.seq (.kill [] [] (.region [
          (.p 2 .id [.c (.pv (.bool false))], none)]))
       .ret)
      .skip))
    (.seq (.kill [1, 3] [1] (.region [
        (.mv 23 3, none),
        (.call 24 20 [.t 23] [] [] [], none),
        (.p 22 .id [.t 24], none),
        (.p 25 (.ext 0) [.t 22], none),
        (.p 26 (.ext 1) [.t 22], none),
        (.alloc 4 (.pagg [.int .i64 0, .int .i64 0, .int .i64 0, .int .u16 0, .int .i64 0, .int .u16 0, .bool false, .int .i64 0, .bool false, .int .i64 0, .bool false, .int .i64 0, .bool false, .int .i64 0, .bool false, .int .i64 0, .bool false, .int .i64 0, .bool false, .int .i64 0, .bool false, .int .i64 0, .bool false, .int .i64 0, .bool false, .int .i64 0, .bool false, .int .i64 0, .bool false, .int .i64 0, .bool false, .int .i64 0, .bool false, .int .i64 0, .bool false, .int .i64 0, .bool false, .int .i64 0, .int .i64 0, .int .i64 0, .int .i64 0, .bool false, .int .i64 0, .int .i64 0, .int .i64 0, .int .i64 0, .bool false, .int .i64 0, .int .i64 0, .int .i64 0, .int .i64 0, .bool false, .int .i64 0, .int .i64 0, .int .i64 0, .int .i64 0, .bool false, .int .i64 0, .int .i64 0, .int .i64 0, .int .i64 0, .bool false, .int .i64 0, .int .i64 0, .int .i64 0, .int .i64 0, .bool false, .int .i64 0]), none),
        (.store (some (68, true)) (some 4) (.t 4) (.t 25), none),
        (.p 5 .id [.t 26], none)]))
     (.seq (.kill [1, 4, 5] [1, 4] (.region [
         (.load 27 (some (68, true)) (some 1) (.t 1), none),
         (.call 28 21 [.t 27] [] [] [], none),
         (.p 29 (.un .not) [.t 28], none),
         (.p 30 .id [.t 29], none),
         (.p 31 .id [.t 5], some (30, false)),
         (.p 32 (.bin .eql) [.t 31, .c (.pv (.int .i64 0))], some (30, false)),
         (.p 33 .id [.t 32], some (30, false)),
         (.load 34 (some (68, true)) (some 4) (.t 4), some (33, true)),
         (.load 35 (some (68, true)) (some 1) (.t 1), some (33, true)),
         (.p 36 (.seq false [.i .i64, .i .i64, .i .i64, .i .u16, .i .i64, .i .u16, .b, .i .i64, .b, .i .i64, .b, .i .i64, .b, .i .i64, .b, .i .i64, .b, .i .i64, .b, .i .i64, .b, .i .i64, .b, .i .i64, .b, .i .i64, .b, .i .i64, .b, .i .i64, .b, .i .i64, .b, .i .i64, .b, .i .i64, .b, .i .i64, .i .i64, .i .i64, .i .i64, .b, .i .i64, .i .i64, .i .i64, .i .i64, .b, .i .i64, .i .i64, .i .i64, .i .i64, .b, .i .i64, .i .i64, .i .i64, .i .i64, .b, .i .i64, .i .i64, .i .i64, .i .i64, .b, .i .i64, .i .i64, .i .i64, .i .i64, .b, .i .i64]) [.t 34, .t 35], some (33, true)),
         (.p 37 .pick [.t 33, .t 36, .c (.pv (.bool false))], some (30, false)),
         (.p 38 .pick [.t 30, .c (.pv (.bool true)), .t 37], none),
         (.p 2 .id [.t 38], none)]))
      .ret))))))
theorem okLaw15ExecsBytes : okFn Try.prog Try.f7 irLaw15ExecsBytes [.t 2] [] 1 = true := by kernel_rfl

end Go.Proofs.Ytdbbbaaopngbcaa
