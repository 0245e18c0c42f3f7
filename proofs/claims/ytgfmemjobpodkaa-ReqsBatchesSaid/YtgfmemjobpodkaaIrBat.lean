/- The abstract code of functions, printed by gen_ir.py out of the program's form in Lean; each is checked against it. -/
import Derived.Test.YtgfmemjobpodkaaProg
import Derived.Test.YtgfmemjobpodkaaIrReqs
set_option linter.unusedVariables false
set_option linter.unusedSimpArgs false
set_option maxRecDepth 100000
namespace Go.Proofs.Ytgfmemjobpodkaa
open Go.Abs
-- reqs.formedBatch
-- reqs.formedBatch: args [39]; lent []; rs [.t 2]; loops: L1 keeps [0, 3, 7, 8, 9] [6]
def irReqsFormedBatch_L1 : IR := (.seq (.kill [0, 3, 7, 8, 9] [6] (.region [
     (.p 10 (.bin .lss) [.t 9, .t 8], none)]))
  (.seq (.cond (.t 10)
    .skip
    (.exit 0))
   (.seq (.block 1 (.seq (.kill [0, 3, 7, 8, 9] [6] (.region [
         (.p 11 (.indexAddr none 7) [.t 7, .t 9], none),
         (.load 12 (some (7, true)) (some 9999) (.t 11), none),
         (.alloc 5 (.agg [.pv (.int .i64 0), .pv (.int .i64 0), .pv (.int .i64 0), .pv (.int .i64 0), .pv (.int .i64 0), .pv (.int .i64 0), .os 5 1 []]), none),
         (.store (some (7, true)) (some 5) (.t 5) (.t 12), none)]))
      (.seq (.seq (.kill [0, 3, 5, 7, 8, 9] [5, 6] (.region [
           (.load 13 (some (7, true)) (some 5) (.t 5), none),
           (.call 14 20 [.t 13] [] [] [], none),
           (.p 15 (.un .not) [.t 14], none),
           (.p 16 .id [.t 15], none),
           (.p 17 (.fieldAddr 1) [.t 5], some (16, false)),
           (.load 18 none (some 5) (.t 17), some (16, false)),
           (.p 19 .id [.t 3], some (16, false)),
           (.p 20 (.fieldAddr 0) [.t 5], some (16, false)),
           (.load 21 none (some 5) (.t 20), some (16, false)),
           (.mlook 22 false false [.i .i64] (.int .i64 0) (some 6) (.t 19) (.t 21), some (16, false)),
           (.p 23 (.bin .leq) [.t 18, .t 22], some (16, false)),
           (.p 24 .pick [.t 16, .c (.pv (.bool true)), .t 23], none)]))
        (.cond (.t 24)
         (.seq (.kill [] [] (.region [
             (.p 2 .id [.c (.pv (.bool false))], none)]))
          .ret)
         .skip))
       (.kill [0, 3, 5, 7, 8, 9] [5, 6] (.region [
          (.p 25 .id [.t 3], none),
          (.p 26 (.fieldAddr 0) [.t 5], none),
          (.load 27 none (some 5) (.t 26), none),
          (.p 28 (.fieldAddr 1) [.t 5], none),
          (.load 29 none (some 5) (.t 28), none),
          (.mupd false [.i .i64] (some 6) (.t 25) (.t 27) (.t 29), none)])))))
    (.kill [0, 3, 7, 8, 9] [6] (.region [
       (.p 30 (.bin .add) [.t 9, .c (.pv (.int .i64 1))], none),
       (.p 9 .id [.t 30], none)])))))
def irReqsFormedBatch : IR := (.seq (.region [
    (.p 2 .id [.c (.pv (.bool false))], none)])
 (.seq (.kill [0] [] (.region [
     (.mkmap 6 false [.i .i64], none),
     (.p 3 .id [.t 6], none)]))
  (.seq (.seq (.kill [0, 3] [6] (.region [
       (.p 7 .id [.t 0], none),
       (.p 8 (.len none) [.t 7], none),
       (.p 9 .id [.c (.pv (.int .i64 0))], none)]))
    (.block 0 (.loop (.kill [0, 3, 7, 8, 9] [6] irReqsFormedBatch_L1))))
   (.seq (.kill [0] [] (.region [
       (.p 31 .id [.t 0], none),
       (.p 32 (.len none) [.t 31], none),
       (.p 33 (.bin .geq) [.t 32, .c (.pv (.int .i64 1))], none),
       (.p 34 .id [.t 33], none),
       (.p 35 .id [.t 0], some (34, true)),
       (.p 36 (.len none) [.t 35], some (34, true)),
       (.p 37 (.bin .leq) [.t 36, .c (.pv (.int .i64 4))], some (34, true)),
       (.p 38 .pick [.t 34, .t 37, .c (.pv (.bool false))], none),
       (.p 2 .id [.t 38], none)]))
    .ret))))
theorem okReqsFormedBatch : okFn Try.prog Try.f32 irReqsFormedBatch [.t 2] [] 1 = true := by kernel_rfl

-- reqs.PutBatch
-- reqs.PutBatch: args [39]; lent []; rs [.t 2, .t 3]; loops: L1 keeps [4, 16, 17, 18] []
def irReqsPutBatch_L1 : IR := (.seq (.kill [4, 16, 17, 18] [] (.region [
     (.p 19 (.bin .lss) [.t 18, .t 17], none)]))
  (.seq (.cond (.t 19)
    .skip
    (.exit 0))
   (.seq (.block 1 (.seq (.kill [4, 16, 17, 18] [] (.region [
         (.p 20 (.indexAddr none 7) [.t 16, .t 18], none),
         (.load 21 (some (7, true)) (some 9999) (.t 20), none),
         (.alloc 6 (.agg [.pv (.int .i64 0), .pv (.int .i64 0), .pv (.int .i64 0), .pv (.int .i64 0), .pv (.int .i64 0), .pv (.int .i64 0), .os 5 1 []]), none),
         (.store (some (7, true)) (some 6) (.t 6) (.t 21), none)]))
      (.seq (.kill [4, 6, 16, 17, 18] [6] (.region [
          (.load 23 (some (7, true)) (some 6) (.t 6), none),
          (.call 24 6 [.t 23] [] [] [], none),
          (.p 22 .id [.t 24], none),
          (.p 25 (.ext 0) [.t 22], none),
          (.p 26 (.ext 1) [.t 22], none),
          (.mv 7 25, none),
          (.p 8 .id [.t 26], none)]))
       (.kill [4, 7, 16, 17, 18] [] (.region [
          (.mv 27 4, none),
          (.mv 28 7, none),
          (.call 29 21 [.t 27, .t 28] [] [] [], none),
          (.mv 4 29, none)])))))
    (.kill [4, 16, 17, 18] [] (.region [
       (.p 30 (.bin .add) [.t 18, .c (.pv (.int .i64 1))], none),
       (.p 18 .id [.t 30], none)])))))
def irReqsPutBatch : IR := (.seq (.region [
    (.p 2 .id [.c (.os 5 1 [])], none),
    (.p 3 .id [.c (.pv (.int .i64 0))], none)])
 (.seq (.seq (.kill [0] [] (.region [
      (.p 9 .id [.t 0], none),
      (.call 10 32 [.t 9] [] [] [], none),
      (.p 11 (.un .not) [.t 10], none)]))
   (.cond (.t 11)
    (.seq (.kill [] [] (.region [
        (.p 2 .id [.c (.os 5 1 [])], none),
        (.p 3 .id [.c (.pv (.int .i64 15))], none)]))
     .ret)
    .skip))
  (.seq (.kill [0] [] (.region [
      (.p 12 .id [.t 0], none),
      (.p 13 (.len none) [.t 12], none),
      (.p 14 (.conv .u64) [.t 13], none),
      (.call 15 33 [.c (.os 5 1 []), .t 14] [] [] [], none),
      (.mv 4 15, none)]))
   (.seq (.seq (.kill [0, 4] [] (.region [
        (.mv 16 0, none),
        (.p 17 (.len none) [.t 16], none),
        (.p 18 .id [.c (.pv (.int .i64 0))], none)]))
     (.block 0 (.loop (.kill [4, 16, 17, 18] [] irReqsPutBatch_L1))))
    (.seq (.kill [4] [] (.region [
        (.mv 31 4, none),
        (.mv 2 31, none),
        (.p 3 .id [.c (.pv (.int .i64 0))], none)]))
     .ret)))))
theorem okReqsPutBatch : okFn Try.prog Try.f16 irReqsPutBatch [.t 2, .t 3] [] 1 = true := by kernel_rfl

-- reqs.GetBatch
-- reqs.GetBatch: args [24]; lent []; rs [.t 2, .t 3]; loops: L1 keeps [4, 7, 21, 22] [12]
def irReqsGetBatch_L1 : IR := (.seq (.kill [4, 7, 21, 22] [12] (.region [
     (.p 23 (.bin .lss) [.t 22, .t 21], none)]))
  (.seq (.cond (.t 23)
    .skip
    (.exit 0))
   (.seq (.block 1 (.seq (.kill [4, 7, 21, 22] [12] (.region [
         (.p 25 .id [.t 4], none),
         (.call 26 25 [.t 25, .c (.pv (.int .i64 2000))] [12] [] [], none),
         (.p 24 .id [.t 26], none),
         (.p 27 (.ext 0) [.t 24], none),
         (.p 28 (.ext 1) [.t 24], none),
         (.mv 8 27, none),
         (.p 9 .id [.t 28], none)]))
      (.seq (.seq (.kill [4, 7, 8, 9, 21, 22] [12] (.region [
           (.p 29 .id [.t 9], none),
           (.p 30 (.bin .neq) [.t 29, .c (.pv (.int .i64 0))], none)]))
        (.cond (.t 30)
         (.seq (.kill [9] [] (.region [
             (.p 31 .id [.t 9], none),
             (.p 2 .id [.c (.os 26 7 [])], none),
             (.p 3 .id [.t 31], none)]))
          .ret)
         .skip))
       (.seq (.kill [4, 7, 8, 21, 22] [12] (.region [
           (.mv 33 8, none),
           (.call 34 11 [.t 33] [] [] [], none),
           (.p 32 .id [.t 34], none),
           (.p 35 (.ext 0) [.t 32], none),
           (.p 36 (.ext 1) [.t 32], none),
           (.alloc 10 (.agg [.pv (.int .i64 0), .pv (.int .i64 0), .pv (.int .i64 0), .pv (.int .i64 0), .pv (.int .i64 0), .pv (.int .i64 0), .os 5 1 []]), none),
           (.store (some (7, true)) (some 10) (.t 10) (.t 35), none),
           (.p 9 .id [.t 36], none)]))
        (.seq (.seq (.kill [4, 7, 9, 10, 21, 22] [10, 12] (.region [
             (.p 37 .id [.t 9], none),
             (.p 38 (.bin .neq) [.t 37, .c (.pv (.int .i64 0))], none)]))
          (.cond (.t 38)
           (.seq (.kill [9] [] (.region [
               (.p 39 .id [.t 9], none),
               (.p 2 .id [.c (.os 26 7 [])], none),
               (.p 3 .id [.t 39], none)]))
            .ret)
           .skip))
         (.kill [4, 7, 10, 21, 22] [10, 12] (.region [
            (.mv 40 7, none),
            (.load 41 (some (7, true)) (some 10) (.t 10), none),
            (.bslice 42 26 7 1 [.int .i64 0, .int .i64 0, .int .i64 0, .int .i64 0, .int .i64 0, .int .i64 0, .sl 1 []] [(0, .t 41)], none),
            (.app 43 26 7 40 none (.t 42), none),
            (.mv 7 43, none)])))))))
    (.kill [4, 7, 21, 22] [12] (.region [
       (.p 44 (.bin .add) [.t 22, .c (.pv (.int .i64 1))], none),
       (.p 22 .id [.t 44], none)])))))
def irReqsGetBatch : IR := (.seq (.region [
    (.p 2 .id [.c (.os 26 7 [])], none),
    (.p 3 .id [.c (.pv (.int .i64 0))], none)])
 (.seq (.kill [0] [] (.region [
     (.mv 11 0, none),
     (.call 12 24 [.t 11] [] [12] [], none),
     (.p 4 .id [.t 12], none)]))
  (.seq (.kill [4] [12] (.region [
      (.p 14 .id [.t 4], none),
      (.call 15 35 [.t 14, .c (.pv (.int .i64 4))] [12] [] [], none),
      (.p 13 .id [.t 15], none),
      (.p 16 (.ext 0) [.t 13], none),
      (.p 17 (.ext 1) [.t 13], none),
      (.p 5 .id [.t 16], none),
      (.p 6 .id [.t 17], none)]))
   (.seq (.seq (.kill [4, 5, 6] [12] (.region [
        (.p 18 .id [.t 6], none),
        (.p 19 (.bin .neq) [.t 18, .c (.pv (.int .i64 0))], none)]))
     (.cond (.t 19)
      (.seq (.kill [6] [] (.region [
          (.p 20 .id [.t 6], none),
          (.p 2 .id [.c (.os 26 7 [])], none),
          (.p 3 .id [.t 20], none)]))
       .ret)
      .skip))
    (.seq (.kill [4, 5] [12] (.region [
        (.p 7 .id [.c (.os 26 7 [])], none)]))
     (.seq (.seq (.kill [4, 5, 7] [12] (.region [
          (.p 21 .id [.t 5], none),
          (.p 22 .id [.c (.pv (.int .i64 0))], none)]))
       (.block 0 (.loop (.kill [4, 7, 21, 22] [12] irReqsGetBatch_L1))))
      (.seq (.block 2 (.seq (.kill [4, 7] [12] (.region [
            (.p 46 .id [.t 4], none),
            (.call 47 27 [.t 46] [12] [] [], none),
            (.p 48 (.bin .neq) [.t 47, .c (.pv (.int .i64 0))], none),
            (.p 45 .id [.t 48], none)]))
         (.cond (.t 45)
          (.seq (.kill [] [] (.region [
              (.p 2 .id [.c (.os 26 7 [])], none),
              (.p 3 .id [.c (.pv (.int .i64 2))], none)]))
           .ret)
          (.seq (.kill [7] [] (.region [
              (.p 50 .id [.t 7], none),
              (.call 51 32 [.t 50] [] [] [], none),
              (.p 52 (.un .not) [.t 51], none),
              (.p 49 .id [.t 52], none)]))
           (.cond (.t 49)
            (.seq (.kill [] [] (.region [
                (.p 2 .id [.c (.os 26 7 [])], none),
                (.p 3 .id [.c (.pv (.int .i64 15))], none)]))
             .ret)
            .skip)))))
       (.seq (.kill [7] [] (.region [
           (.mv 53 7, none),
           (.mv 2 53, none),
           (.p 3 .id [.c (.pv (.int .i64 0))], none)]))
        .ret))))))))
theorem okReqsGetBatch : okFn Try.prog Try.f18 irReqsGetBatch [.t 2, .t 3] [] 1 = true := by kernel_rfl

-- consistoryref07.FormedBatch
-- consistoryref07.FormedBatch: args [39]; lent []; rs [.t 2]; loops: L2 keeps [0, 3, 4] []; L1 keeps [0, 3] []
def irRef07FormedBatch_L2 : IR := (.seq (.seq (.kill [0, 3, 4] [] (.region [
      (.p 25 .id [.t 4], none),
      (.p 26 .id [.t 3], none),
      (.p 27 (.bin .lss) [.t 25, .t 26], none)]))
   (.cond (.t 27)
    .skip
    (.exit 2)))
  (.seq (.block 3 (.seq (.kill [0, 3, 4] [] (.region [
        (.p 30 .id [.t 0], none),
        (.p 31 .id [.t 4], none),
        (.p 32 (.indexAddr none 7) [.t 30, .t 31], none),
        (.p 33 (.fieldAddr 0) [.t 32], none),
        (.load 34 none (some 9999) (.t 33), none),
        (.p 35 .id [.t 0], none),
        (.p 36 .id [.t 3], none),
        (.p 37 (.indexAddr none 7) [.t 35, .t 36], none),
        (.p 38 (.fieldAddr 0) [.t 37], none),
        (.load 39 none (some 9999) (.t 38), none),
        (.p 40 (.bin .eql) [.t 34, .t 39], none),
        (.p 41 .id [.t 40], none),
        (.p 42 .id [.t 0], some (41, true)),
        (.p 43 .id [.t 4], some (41, true)),
        (.p 44 (.indexAddr none 7) [.t 42, .t 43], some (41, true)),
        (.p 45 (.fieldAddr 1) [.t 44], some (41, true)),
        (.load 46 none (some 9999) (.t 45), some (41, true)),
        (.p 47 .id [.t 0], some (41, true)),
        (.p 48 .id [.t 3], some (41, true)),
        (.p 49 (.indexAddr none 7) [.t 47, .t 48], some (41, true)),
        (.p 50 (.fieldAddr 1) [.t 49], some (41, true)),
        (.load 51 none (some 9999) (.t 50), some (41, true)),
        (.p 52 (.bin .geq) [.t 46, .t 51], some (41, true)),
        (.p 53 .pick [.t 41, .t 52, .c (.pv (.bool false))], none)]))
     (.cond (.t 53)
      (.seq (.kill [] [] (.region [
          (.p 2 .id [.c (.pv (.bool false))], none)]))
       .ret)
      .skip)))
   (.kill [0, 3, 4] [] (.region [
      (.p 28 .id [.t 4], none),
      (.p 29 (.bin .add) [.t 28, .c (.pv (.int .i64 1))], none),
      (.p 4 .id [.t 29], none)]))))
def irRef07FormedBatch_L1 : IR := (.seq (.seq (.kill [0, 3] [] (.region [
      (.p 13 .id [.t 3], none),
      (.p 14 .id [.t 0], none),
      (.p 15 (.len none) [.t 14], none),
      (.p 16 (.bin .lss) [.t 13, .t 15], none)]))
   (.cond (.t 16)
    .skip
    (.exit 0)))
  (.seq (.block 1 (.seq (.seq (.kill [0, 3] [] (.region [
         (.p 19 .id [.t 0], none),
         (.p 20 .id [.t 3], none),
         (.p 21 (.indexAddr none 7) [.t 19, .t 20], none),
         (.load 22 (some (7, true)) (some 9999) (.t 21), none),
         (.call 23 10 [.t 22] [] [] [], none),
         (.p 24 (.un .not) [.t 23], none)]))
      (.cond (.t 24)
       (.seq (.kill [] [] (.region [
           (.p 2 .id [.c (.pv (.bool false))], none)]))
        .ret)
       .skip))
     (.seq (.kill [0, 3] [] (.region [
         (.p 4 .id [.c (.pv (.int .i64 0))], none)]))
      (.block 2 (.loop (.kill [0, 3, 4] [] irRef07FormedBatch_L2))))))
   (.kill [0, 3] [] (.region [
      (.p 17 .id [.t 3], none),
      (.p 18 (.bin .add) [.t 17, .c (.pv (.int .i64 1))], none),
      (.p 3 .id [.t 18], none)]))))
def irRef07FormedBatch : IR := (.seq (.region [
    (.p 2 .id [.c (.pv (.bool false))], none)])
 (.seq (.seq (.kill [0] [] (.region [
      (.p 5 .id [.t 0], none),
      (.p 6 (.len none) [.t 5], none),
      (.p 7 (.bin .lss) [.t 6, .c (.pv (.int .i64 1))], none),
      (.p 8 .id [.t 7], none),
      (.p 9 .id [.t 0], some (8, false)),
      (.p 10 (.len none) [.t 9], some (8, false)),
      (.p 11 (.bin .gtr) [.t 10, .c (.pv (.int .i64 4))], some (8, false)),
      (.p 12 .pick [.t 8, .c (.pv (.bool true)), .t 11], none)]))
   (.cond (.t 12)
    (.seq (.kill [] [] (.region [
        (.p 2 .id [.c (.pv (.bool false))], none)]))
     .ret)
    .skip))
  (.seq (.seq (.kill [0] [] (.region [
       (.p 3 .id [.c (.pv (.int .i64 0))], none)]))
    (.block 0 (.loop (.kill [0, 3] [] irRef07FormedBatch_L1))))
   (.seq (.kill [] [] (.region [
       (.p 2 .id [.c (.pv (.bool true))], none)]))
    .ret))))
theorem okRef07FormedBatch : okFn Try.prog Try.f34 irRef07FormedBatch [.t 2] [] 1 = true := by kernel_rfl

-- consistoryref07.PutBatch
-- consistoryref07.PutBatch: args [39]; lent []; rs [.t 2, .t 3]; loops: L1 keeps [0, 4, 5] []
def irRef07PutBatch_L1 : IR := (.seq (.seq (.kill [0, 4, 5] [] (.region [
      (.p 13 .id [.t 5], none),
      (.p 14 .id [.t 0], none),
      (.p 15 (.len none) [.t 14], none),
      (.p 16 (.bin .lss) [.t 13, .t 15], none)]))
   (.cond (.t 16)
    .skip
    (.exit 0)))
  (.seq (.block 1 (.kill [0, 4, 5] [] (.region [
       (.mv 19 4, none),
       (.p 20 .id [.t 0], none),
       (.p 21 .id [.t 5], none),
       (.p 22 (.indexAddr none 7) [.t 20, .t 21], none),
       (.load 23 (some (7, true)) (some 9999) (.t 22), none),
       (.call 24 13 [.t 23] [] [] [], none),
       (.call 25 29 [.t 24] [] [] [], none),
       (.app 26 5 1 19 none (.t 25), none),
       (.mv 4 26, none)])))
   (.kill [0, 4, 5] [] (.region [
      (.p 17 .id [.t 5], none),
      (.p 18 (.bin .add) [.t 17, .c (.pv (.int .i64 1))], none),
      (.p 5 .id [.t 18], none)]))))
def irRef07PutBatch : IR := (.seq (.region [
    (.p 2 .id [.c (.os 5 1 [])], none),
    (.p 3 .id [.c (.pv (.int .i64 0))], none)])
 (.seq (.seq (.kill [0] [] (.region [
      (.p 6 .id [.t 0], none),
      (.call 7 34 [.t 6] [] [] [], none),
      (.p 8 (.un .not) [.t 7], none)]))
   (.cond (.t 8)
    (.seq (.kill [] [] (.region [
        (.p 2 .id [.c (.os 5 1 [])], none),
        (.p 3 .id [.c (.pv (.int .i64 15))], none)]))
     .ret)
    .skip))
  (.seq (.kill [0] [] (.region [
      (.p 9 .id [.t 0], none),
      (.p 10 (.len none) [.t 9], none),
      (.p 11 (.conv .u64) [.t 10], none),
      (.call 12 30 [.t 11] [] [] [], none),
      (.mv 4 12, none)]))
   (.seq (.seq (.kill [0, 4] [] (.region [
        (.p 5 .id [.c (.pv (.int .i64 0))], none)]))
     (.block 0 (.loop (.kill [0, 4, 5] [] irRef07PutBatch_L1))))
    (.seq (.kill [4] [] (.region [
        (.mv 27 4, none),
        (.mv 2 27, none),
        (.p 3 .id [.c (.pv (.int .i64 0))], none)]))
     .ret)))))
theorem okRef07PutBatch : okFn Try.prog Try.f17 irRef07PutBatch [.t 2, .t 3] [] 1 = true := by kernel_rfl

-- consistoryref07.SameAll
-- consistoryref07.SameAll: args [39, 39]; lent []; rs [.t 4]; loops: L1 keeps [0, 1, 5] []
def irRef07SameAll_L1 : IR := (.seq (.seq (.kill [0, 1, 5] [] (.region [
      (.p 11 .id [.t 5], none),
      (.p 12 .id [.t 0], none),
      (.p 13 (.len none) [.t 12], none),
      (.p 14 (.bin .lss) [.t 11, .t 13], none)]))
   (.cond (.t 14)
    .skip
    (.exit 0)))
  (.seq (.block 1 (.seq (.kill [0, 1, 5] [] (.region [
        (.p 17 .id [.t 0], none),
        (.p 18 .id [.t 5], none),
        (.p 19 (.indexAddr none 7) [.t 17, .t 18], none),
        (.load 20 (some (7, true)) (some 9999) (.t 19), none),
        (.p 21 .id [.t 1], none),
        (.p 22 .id [.t 5], none),
        (.p 23 (.indexAddr none 7) [.t 21, .t 22], none),
        (.load 24 (some (7, true)) (some 9999) (.t 23), none),
        (.call 25 15 [.t 20, .t 24] [] [] [], none),
        (.p 26 (.un .not) [.t 25], none)]))
     (.cond (.t 26)
      (.seq (.kill [] [] (.region [
          (.p 4 .id [.c (.pv (.bool false))], none)]))
       .ret)
      .skip)))
   (.kill [0, 1, 5] [] (.region [
      (.p 15 .id [.t 5], none),
      (.p 16 (.bin .add) [.t 15, .c (.pv (.int .i64 1))], none),
      (.p 5 .id [.t 16], none)]))))
def irRef07SameAll : IR := (.seq (.region [
    (.p 4 .id [.c (.pv (.bool false))], none)])
 (.seq (.seq (.kill [0, 1] [] (.region [
      (.p 6 .id [.t 0], none),
      (.p 7 (.len none) [.t 6], none),
      (.p 8 .id [.t 1], none),
      (.p 9 (.len none) [.t 8], none),
      (.p 10 (.bin .neq) [.t 7, .t 9], none)]))
   (.cond (.t 10)
    (.seq (.kill [] [] (.region [
        (.p 4 .id [.c (.pv (.bool false))], none)]))
     .ret)
    .skip))
  (.seq (.seq (.kill [0, 1] [] (.region [
       (.p 5 .id [.c (.pv (.int .i64 0))], none)]))
    (.block 0 (.loop (.kill [0, 1, 5] [] irRef07SameAll_L1))))
   (.seq (.kill [] [] (.region [
       (.p 4 .id [.c (.pv (.bool true))], none)]))
    .ret))))
theorem okRef07SameAll : okFn Try.prog Try.f19 irRef07SameAll [.t 4] [] 2 = true := by kernel_rfl

-- consistorylaw07.ReqsBatches
-- consistorylaw07.ReqsBatches: args [39]; lent []; rs [.t 2]; loops: L1 keeps [0, 16, 17] []
def irLaw07ReqsBatches_L1 : IR := (.seq (.kill [0, 16, 17] [] (.region [
     (.p 18 (.bin .lss) [.t 17, .t 16], none)]))
  (.seq (.cond (.t 18)
    .skip
    (.exit 0))
   (.seq (.block 1 (.seq (.kill [0, 16, 17] [] (.region [
         (.p 19 .id [.t 17], none),
         (.p 3 .id [.t 19], none)]))
      (.seq (.kill [0, 3, 16, 17] [] (.region [
          (.p 20 .id [.t 0], none),
          (.p 21 .id [.t 3], none),
          (.p 22 (.indexAddr none 7) [.t 20, .t 21], none),
          (.p 23 (.fieldAddr 6) [.t 22], none),
          (.load 24 none (some 9999) (.t 23), none),
          (.p 25 (.len none) [.t 24], none),
          (.p 26 (.bin .gtr) [.t 25, .c (.pv (.int .i64 2000))], none)]))
       (.cond (.t 26)
        (.seq (.kill [] [] (.region [
            (.p 2 .id [.c (.pv (.bool true))], none)]))
         .ret)
        .skip))))
    (.kill [0, 16, 17] [] (.region [
       (.p 27 (.bin .add) [.t 17, .c (.pv (.int .i64 1))], none),
       (.p 17 .id [.t 27], none)])))))
def irLaw07ReqsBatches : IR := (.seq (.region [
    (.p 2 .id [.c (.pv (.bool false))], none)])
 (.seq (.seq (.kill [0] [] (.region [
      (.call 10 5 [] [] [] [], none),
      (.p 11 (.un .not) [.t 10], none)]))
   (.cond (.t 11)
    (.seq (.kill [] [] (.region [
        (.p 2 .id [.c (.pv (.bool false))], none)]))
     .ret)
    .skip))
  (.seq (.seq (.kill [0] [] (.region [
       (.p 12 .id [.t 0], none),
       (.p 13 (.len none) [.t 12], none),
       (.p 14 (.bin .gtr) [.t 13, .c (.pv (.int .i64 10))], none)]))
    (.cond (.t 14)
     (.seq (.kill [] [] (.region [
         (.p 2 .id [.c (.pv (.bool true))], none)]))
      .ret)
     .skip))
   (.seq (.seq (.kill [0] [] (.region [
        (.p 15 .id [.t 0], none),
        (.p 16 (.len none) [.t 15], none),
        (.p 17 .id [.c (.pv (.int .i64 0))], none)]))
     (.block 0 (.loop (.kill [0, 16, 17] [] irLaw07ReqsBatches_L1))))
    (.seq (.kill [0] [] (.region [
        (.p 29 .id [.t 0], none),
        (.call 30 16 [.t 29] [] [] [], none),
        (.p 28 .id [.t 30], none),
        (.p 31 (.ext 0) [.t 28], none),
        (.p 32 (.ext 1) [.t 28], none),
        (.mv 4 31, none),
        (.p 5 .id [.t 32], none)]))
     (.seq (.kill [0, 4, 5] [] (.region [
         (.p 34 .id [.t 0], none),
         (.call 35 17 [.t 34] [] [] [], none),
         (.p 33 .id [.t 35], none),
         (.p 36 (.ext 0) [.t 33], none),
         (.p 37 (.ext 1) [.t 33], none),
         (.mv 6 36, none),
         (.p 7 .id [.t 37], none)]))
      (.seq (.seq (.kill [0, 4, 5, 6, 7] [] (.region [
           (.p 38 .id [.t 4], none),
           (.mv 39 6, none),
           (.call 40 12 [.t 38, .t 39] [] [] [], none),
           (.p 41 (.un .not) [.t 40], none),
           (.p 42 .id [.t 41], none),
           (.p 43 .id [.t 5], some (42, false)),
           (.p 44 .id [.t 7], some (42, false)),
           (.p 45 (.bin .neq) [.t 43, .t 44], some (42, false)),
           (.p 46 .pick [.t 42, .c (.pv (.bool true)), .t 45], none)]))
        (.cond (.t 46)
         (.seq (.kill [] [] (.region [
             (.p 2 .id [.c (.pv (.bool false))], none)]))
          .ret)
         .skip))
       (.seq (.seq (.kill [0, 4, 5] [] (.region [
            (.p 47 .id [.t 5], none),
            (.p 48 (.bin .neq) [.t 47, .c (.pv (.int .i64 0))], none)]))
         (.cond (.t 48)
          (.seq (.kill [] [] (.region [
              (.p 2 .id [.c (.pv (.bool true))], none)]))
           .ret)
          .skip))
        (.seq (.kill [0, 4] [] (.region [
            (.mv 50 4, none),
            (.call 51 18 [.t 50] [] [] [], none),
            (.p 49 .id [.t 51], none),
            (.p 52 (.ext 0) [.t 49], none),
            (.p 53 (.ext 1) [.t 49], none),
            (.mv 8 52, none),
            (.p 9 .id [.t 53], none)]))
         (.seq (.kill [0, 8, 9] [] (.region [
             (.p 54 .id [.t 9], none),
             (.p 55 (.bin .eql) [.t 54, .c (.pv (.int .i64 0))], none),
             (.p 56 .id [.t 55], none),
             (.mv 57 8, some (56, true)),
             (.mv 58 0, some (56, true)),
             (.call 59 19 [.t 57, .t 58] [] [] [], some (56, true)),
             (.p 60 .pick [.t 56, .t 59, .c (.pv (.bool false))], none),
             (.p 2 .id [.t 60], none)]))
          .ret))))))))))
theorem okLaw07ReqsBatches : okFn Try.prog Try.f4 irLaw07ReqsBatches [.t 2] [] 1 = true := by kernel_rfl

end Go.Proofs.Ytgfmemjobpodkaa
