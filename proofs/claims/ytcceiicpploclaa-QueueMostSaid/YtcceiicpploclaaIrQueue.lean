/- The abstract code of functions, printed by gen_ir.py out of the program's form in Lean; each is checked against it. -/
import Derived.Test.YtcceiicpploclaaProg
import Derived.Test.YtcceiicpploclaaIrBat
set_option linter.unusedVariables false
set_option linter.unusedSimpArgs false
set_option maxRecDepth 100000
namespace Go.Proofs.Ytcceiicpploclaa
open Go.Abs
-- queue.New
-- queue.New: args []; lent []; rs [.t 0]; loops: 
def irQueueNew : IR := (.seq (.region [
    (.p 0 .id [.c (.pv .nilp)], none)])
 (.seq (.kill [] [] (.region [
     (.mkmap 1 true [.i .i64, .i .i64], none),
     (.build 2 (.agg [.os 36 7 [], .pv .nilm]) [(1, 1, .t 1)], none),
     (.boxmv 3 2, none),
     (.p 0 .id [.t 3], none)]))
  .ret))
theorem okQueueNew : okFn Try.prog Try.f11 irQueueNew [.t 0] [3, 1] 0 = true := by kernel_rfl

-- queue.own
-- queue.own: args [36]; lent []; rs [.cell 2 (some (7, true))]; loops: 
def irQueueOwn : IR := (.seq (.region [
    (.box 1 (.t 0), none),
    (.alloc 2 (.agg [.pv (.int .i64 0), .pv (.int .i64 0), .pv (.int .i64 0), .pv (.int .i64 0), .pv (.int .i64 0), .pv (.int .i64 0), .os 5 1 []]), none)])
 (.seq (.kill [1, 2] [1, 2] (.region [
     (.p 3 (.fieldAddr 6) [.t 1], none),
     (.load 4 none (some 1) (.t 3), none),
     (.call 5 31 [.t 4] [] [] [], none),
     (.p 6 (.fieldAddr 6) [.t 1], none),
     (.storemv (some 1) (.t 6) 5, none)]))
  (.seq (.kill [1, 2] [1, 2] (.region [
      (.load 7 (some (7, true)) (some 1) (.t 1), none),
      (.store (some (7, true)) (some 2) (.t 2) (.t 7), none)]))
   .ret)))
theorem okQueueOwn : okFn Try.prog Try.f25 irQueueOwn [.cell 2 (some (7, true))] [] 1 = true := by kernel_rfl

-- queue.Queue.Add
-- queue.Queue.Add: args [30, 36]; lent [0, None]; rs [.t 4]; loops: 
def irQueueQueueAdd : IR := (.seq (.region [
    (.box 3 (.t 1), none),
    (.p 4 .id [.c (.pv (.int .i64 0))], none)])
 (.seq (.seq (.kill [0, 3] [3, 1000, 1001] (.region [
      (.p 8 .id [.t 0], none),
      (.p 9 (.peq false) [.t 8, .c (.pv .nilp)], none)]))
   (.cond (.t 9)
    (.seq (.kill [0] [1000, 1001] (.region [
        (.p 4 .id [.c (.pv (.int .i64 16))], none)]))
     .ret)
    .skip))
  (.seq (.kill [0, 3] [3, 1000, 1001] (.region [
      (.load 11 (some (7, true)) (some 3) (.t 3), none),
      (.call 12 24 [.t 11] [] [] [], none),
      (.p 10 .id [.t 12], none),
      (.p 13 (.ext 0) [.t 10], none),
      (.p 14 (.ext 1) [.t 10], none),
      (.mv 5 13, none),
      (.p 6 .id [.t 14], none)]))
   (.seq (.kill [0, 3, 6] [3, 1000, 1001] (.region [
       (.p 15 (.fieldAddr 0) [.t 3], none),
       (.load 16 none (some 3) (.t 15), none),
       (.p 17 (.fieldAddr 1) [.t 3], none),
       (.load 18 none (some 3) (.t 17), none),
       (.build 19 (.pagg [.int .i64 0, .int .i64 0]) [(0, 1, .t 16), (1, 1, .t 18)], none),
       (.alloc 7 (.pagg [.int .i64 0, .int .i64 0]), none),
       (.store (some (2, true)) (some 7) (.t 7) (.t 19), none)]))
    (.seq (.block 0 (.seq (.kill [0, 3, 6, 7] [3, 7, 1000, 1001] (.region [
          (.p 21 .id [.t 6], none),
          (.p 22 (.bin .neq) [.t 21, .c (.pv (.int .i64 0))], none),
          (.p 20 .id [.t 22], none)]))
       (.cond (.t 20)
        (.seq (.kill [0] [1000, 1001] (.region [
            (.p 4 .id [.c (.pv (.int .i64 15))], none)]))
         .ret)
        (.seq (.kill [0, 3, 7] [3, 7, 1000, 1001] (.region [
            (.p 24 .id [.t 0], none),
            (.p 25 .nilc [.t 24], none),
            (.p 26 (.fieldAddr 1) [.t 25], none),
            (.load 27 none (some 1000) (.t 26), none),
            (.load 28 (some (2, true)) (some 7) (.t 7), none),
            (.mlook 29 false true [.i .i64, .i .i64] (.bool false) (some 1001) (.t 27) (.t 28), none),
            (.p 23 .id [.t 29], none)]))
         (.cond (.t 23)
          (.seq (.kill [0] [1000, 1001] (.region [
              (.p 4 .id [.c (.pv (.int .i64 7))], none)]))
           .ret)
          (.seq (.kill [0, 3, 7] [3, 7, 1000, 1001] (.region [
              (.p 31 .id [.t 0], none),
              (.p 32 .nilc [.t 31], none),
              (.p 33 (.fieldAddr 0) [.t 32], none),
              (.load 34 none (some 1000) (.t 33), none),
              (.p 35 (.len none) [.t 34], none),
              (.p 36 (.bin .geq) [.t 35, .c (.pv (.int .i64 12))], none),
              (.p 30 .id [.t 36], none)]))
           (.cond (.t 30)
            (.seq (.kill [0] [1000, 1001] (.region [
                (.p 4 .id [.c (.pv (.int .i64 4))], none)]))
             .ret)
            .skip)))))))
     (.seq (.kill [0, 3, 7] [3, 7, 1000, 1001] (.region [
         (.p 37 .id [.t 0], none),
         (.p 38 .id [.t 0], none),
         (.p 39 .nilc [.t 38], none),
         (.p 40 (.fieldAddr 0) [.t 39], none),
         (.loadmv 41 (some 1000) (.t 40), none),
         (.load 42 (some (7, true)) (some 3) (.t 3), none),
         (.call 43 25 [.t 42] [] [] [], none),
         (.bslice 44 36 7 1 [.int .i64 0, .int .i64 0, .int .i64 0, .int .i64 0, .int .i64 0, .int .i64 0, .sl 1 []] [(0, .t 43)], none),
         (.app 45 36 7 41 none (.t 44), none),
         (.p 46 .nilc [.t 37], none),
         (.p 47 (.fieldAddr 0) [.t 46], none),
         (.storemv (some 1000) (.t 47) 45, none)]))
      (.seq (.kill [0, 7] [7, 1000, 1001] (.region [
          (.p 48 .id [.t 0], none),
          (.p 49 .nilc [.t 48], none),
          (.p 50 (.fieldAddr 1) [.t 49], none),
          (.load 51 none (some 1000) (.t 50), none),
          (.load 52 (some (2, true)) (some 7) (.t 7), none),
          (.mupd true [.i .i64, .i .i64] (some 1001) (.t 51) (.t 52) (.c (.pv (.bool true))), none)]))
       (.seq (.kill [0] [1000, 1001] (.region [
           (.p 4 .id [.c (.pv (.int .i64 0))], none)]))
        .ret))))))))
theorem okQueueQueueAdd : okFn Try.prog Try.f12 irQueueQueueAdd [.t 4] [] 2 = true := by kernel_rfl

-- queue.Queue.Batch
-- queue.Queue.Batch: args [30, 27]; lent [0, None]; rs [.t 4]; loops: L1 keeps [0, 3, 5, 13, 14, 15] [3, 1000, 1001]
def irQueueQueueBatch_L1 : IR := (.seq (.kill [0, 3, 5, 13, 14, 15] [3, 1000, 1001] (.region [
     (.p 16 (.bin .lss) [.t 15, .t 14], none)]))
  (.seq (.cond (.t 16)
    .skip
    (.exit 0))
   (.seq (.block 1 (.seq (.kill [0, 3, 5, 13, 14, 15] [3, 1000, 1001] (.region [
         (.p 17 (.indexAddr none 7) [.t 13, .t 15], none),
         (.load 18 (some (7, true)) (some 9999) (.t 17), none),
         (.alloc 7 (.agg [.pv (.int .i64 0), .pv (.int .i64 0), .pv (.int .i64 0), .pv (.int .i64 0), .pv (.int .i64 0), .pv (.int .i64 0), .os 5 1 []]), none),
         (.store (some (7, true)) (some 7) (.t 7) (.t 18), none)]))
      (.seq (.seq (.kill [0, 3, 5, 7, 13, 14, 15] [3, 7, 1000, 1001] (.region [
           (.p 19 .id [.t 5], none),
           (.p 20 (.len none) [.t 19], none),
           (.p 21 (.bin .eql) [.t 20, .c (.pv (.int .i64 4))], none)]))
        (.cond (.t 21)
         (.exit 0)
         .skip))
       (.seq (.kill [0, 3, 5, 7, 13, 14, 15] [3, 7, 1000, 1001] (.region [
           (.p 22 (.fieldAddr 1) [.t 7], none),
           (.load 23 none (some 7) (.t 22), none),
           (.p 24 (.fieldAddr 0) [.t 7], none),
           (.load 25 none (some 7) (.t 24), none),
           (.p 26 (.indexAddr (some 6) 5) [.t 3, .t 25], none),
           (.p 27 (.fieldAddr 1) [.t 26], none),
           (.load 28 none (some 3) (.t 27), none),
           (.p 29 (.bin .gtr) [.t 23, .t 28], none)]))
        (.cond (.t 29)
         (.seq (.kill [0, 3, 5, 7, 13, 14, 15] [3, 7, 1000, 1001] (.region [
             (.p 30 (.fieldAddr 0) [.t 7], none),
             (.load 31 none (some 7) (.t 30), none),
             (.p 32 (.fieldAddr 1) [.t 7], none),
             (.load 33 none (some 7) (.t 32), none),
             (.p 34 (.indexAddr (some 6) 5) [.t 3, .t 31], none),
             (.p 35 (.fieldAddr 1) [.t 34], none),
             (.store none (some 3) (.t 35) (.t 33), none)]))
          (.kill [0, 3, 5, 7, 13, 14, 15] [3, 7, 1000, 1001] (.region [
             (.mv 36 5, none),
             (.load 37 (some (7, true)) (some 7) (.t 7), none),
             (.call 38 25 [.t 37] [] [] [], none),
             (.bslice 39 36 7 1 [.int .i64 0, .int .i64 0, .int .i64 0, .int .i64 0, .int .i64 0, .int .i64 0, .sl 1 []] [(0, .t 38)], none),
             (.app 40 36 7 36 none (.t 39), none),
             (.mv 5 40, none)])))
         .skip)))))
    (.kill [0, 3, 5, 13, 14, 15] [3, 1000, 1001] (.region [
       (.p 41 (.bin .add) [.t 15, .c (.pv (.int .i64 1))], none),
       (.p 15 .id [.t 41], none)])))))
def irQueueQueueBatch : IR := (.seq (.region [
    (.box 3 (.t 1), none),
    (.p 4 .id [.c (.os 36 7 [])], none)])
 (.seq (.seq (.kill [0, 3] [3, 1000, 1001] (.region [
      (.p 8 .id [.t 0], none),
      (.p 9 (.peq false) [.t 8, .c (.pv .nilp)], none)]))
   (.cond (.t 9)
    (.seq (.kill [0] [1000, 1001] (.region [
        (.p 4 .id [.c (.os 36 7 [])], none)]))
     .ret)
    .skip))
  (.seq (.kill [0, 3] [3, 1000, 1001] (.region [
      (.p 5 .id [.c (.os 36 7 [])], none)]))
   (.seq (.seq (.kill [0, 3, 5] [3, 1000, 1001] (.region [
        (.p 10 .id [.t 0], none),
        (.p 11 .nilc [.t 10], none),
        (.p 12 (.fieldAddr 0) [.t 11], none),
        (.load 13 none (some 1000) (.t 12), none),
        (.p 14 (.len none) [.t 13], none),
        (.p 15 .id [.c (.pv (.int .i64 0))], none)]))
     (.block 0 (.loop (.kill [0, 3, 5, 13, 14, 15] [3, 1000, 1001] irQueueQueueBatch_L1))))
    (.seq (.kill [0, 5] [1000, 1001] (.region [
        (.mv 42 5, none),
        (.mv 4 42, none)]))
     .ret)))))
theorem okQueueQueueBatch : okFn Try.prog Try.f13 irQueueQueueBatch [.t 4] [] 2 = true := by kernel_rfl

-- queue.Queue.Drop
-- queue.Queue.Drop: args [30, 27]; lent [0, None]; rs []; loops: L1 keeps [0, 3, 4, 12, 13, 14] [3, 1000, 1001]
def irQueueQueueDrop_L1 : IR := (.seq (.kill [0, 3, 4, 12, 13, 14] [3, 1000, 1001] (.region [
     (.p 15 (.bin .lss) [.t 14, .t 13], none)]))
  (.seq (.cond (.t 15)
    .skip
    (.exit 0))
   (.seq (.block 1 (.seq (.kill [0, 3, 4, 12, 13, 14] [3, 1000, 1001] (.region [
         (.p 16 (.indexAddr none 7) [.t 12, .t 14], none),
         (.load 17 (some (7, true)) (some 9999) (.t 16), none),
         (.alloc 6 (.agg [.pv (.int .i64 0), .pv (.int .i64 0), .pv (.int .i64 0), .pv (.int .i64 0), .pv (.int .i64 0), .pv (.int .i64 0), .os 5 1 []]), none),
         (.store (some (7, true)) (some 6) (.t 6) (.t 17), none)]))
      (.seq (.kill [0, 3, 4, 6, 12, 13, 14] [3, 6, 1000, 1001] (.region [
          (.p 18 (.fieldAddr 1) [.t 6], none),
          (.load 19 none (some 6) (.t 18), none),
          (.p 20 (.fieldAddr 0) [.t 6], none),
          (.load 21 none (some 6) (.t 20), none),
          (.p 22 (.indexAddr (some 6) 5) [.t 3, .t 21], none),
          (.p 23 (.fieldAddr 1) [.t 22], none),
          (.load 24 none (some 3) (.t 23), none),
          (.p 25 (.bin .gtr) [.t 19, .t 24], none)]))
       (.cond (.t 25)
        (.kill [0, 3, 4, 6, 12, 13, 14] [3, 6, 1000, 1001] (.region [
           (.mv 26 4, none),
           (.load 27 (some (7, true)) (some 6) (.t 6), none),
           (.bslice 28 36 7 1 [.int .i64 0, .int .i64 0, .int .i64 0, .int .i64 0, .int .i64 0, .int .i64 0, .sl 1 []] [(0, .t 27)], none),
           (.app 29 36 7 26 none (.t 28), none),
           (.mv 4 29, none)]))
        (.kill [0, 3, 4, 6, 12, 13, 14] [3, 6, 1000, 1001] (.region [
           (.p 30 .id [.t 0], none),
           (.p 31 .nilc [.t 30], none),
           (.p 32 (.fieldAddr 1) [.t 31], none),
           (.load 33 none (some 1000) (.t 32), none),
           (.p 34 (.fieldAddr 0) [.t 6], none),
           (.load 35 none (some 6) (.t 34), none),
           (.p 36 (.fieldAddr 1) [.t 6], none),
           (.load 37 none (some 6) (.t 36), none),
           (.build 38 (.pagg [.int .i64 0, .int .i64 0]) [(0, 1, .t 35), (1, 1, .t 37)], none),
           (.mdel true [.i .i64, .i .i64] (some 1001) (.t 33) (.t 38), none)]))))))
    (.kill [0, 3, 4, 12, 13, 14] [3, 1000, 1001] (.region [
       (.p 39 (.bin .add) [.t 14, .c (.pv (.int .i64 1))], none),
       (.p 14 .id [.t 39], none)])))))
def irQueueQueueDrop : IR := (.seq (.region [
    (.box 3 (.t 1), none)])
 (.seq (.seq (.kill [0, 3] [3, 1000, 1001] (.region [
      (.p 7 .id [.t 0], none),
      (.p 8 (.peq false) [.t 7, .c (.pv .nilp)], none)]))
   (.cond (.t 8)
    .ret
    .skip))
  (.seq (.kill [0, 3] [3, 1000, 1001] (.region [
      (.p 4 .id [.c (.os 36 7 [])], none)]))
   (.seq (.seq (.kill [0, 3, 4] [3, 1000, 1001] (.region [
        (.p 9 .id [.t 0], none),
        (.p 10 .nilc [.t 9], none),
        (.p 11 (.fieldAddr 0) [.t 10], none),
        (.load 12 none (some 1000) (.t 11), none),
        (.p 13 (.len none) [.t 12], none),
        (.p 14 .id [.c (.pv (.int .i64 0))], none)]))
     (.block 0 (.loop (.kill [0, 3, 4, 12, 13, 14] [3, 1000, 1001] irQueueQueueDrop_L1))))
    (.kill [0, 4] [1000, 1001] (.region [
       (.p 40 .id [.t 0], none),
       (.mv 41 4, none),
       (.p 42 .nilc [.t 40], none),
       (.p 43 (.fieldAddr 0) [.t 42], none),
       (.storemv (some 1000) (.t 43) 41, none)]))))))
theorem okQueueQueueDrop : okFn Try.prog Try.f20 irQueueQueueDrop [] [] 2 = true := by kernel_rfl

-- queue.Queue.All
-- queue.Queue.All: args [30]; lent [0, None]; rs [.t 2]; loops: L1 keeps [0, 3, 11, 12, 13] [1000, 1001]
def irQueueQueueAll_L1 : IR := (.seq (.kill [0, 3, 11, 12, 13] [1000, 1001] (.region [
     (.p 14 (.bin .lss) [.t 13, .t 12], none)]))
  (.seq (.cond (.t 14)
    .skip
    (.exit 0))
   (.seq (.block 1 (.seq (.kill [0, 3, 11, 12, 13] [1000, 1001] (.region [
         (.p 15 (.indexAddr none 7) [.t 11, .t 13], none),
         (.load 16 (some (7, true)) (some 9999) (.t 15), none),
         (.alloc 5 (.agg [.pv (.int .i64 0), .pv (.int .i64 0), .pv (.int .i64 0), .pv (.int .i64 0), .pv (.int .i64 0), .pv (.int .i64 0), .os 5 1 []]), none),
         (.store (some (7, true)) (some 5) (.t 5) (.t 16), none)]))
      (.kill [0, 3, 5, 11, 12, 13] [5, 1000, 1001] (.region [
         (.mv 17 3, none),
         (.load 18 (some (7, true)) (some 5) (.t 5), none),
         (.call 19 25 [.t 18] [] [] [], none),
         (.bslice 20 36 7 1 [.int .i64 0, .int .i64 0, .int .i64 0, .int .i64 0, .int .i64 0, .int .i64 0, .sl 1 []] [(0, .t 19)], none),
         (.app 21 36 7 17 none (.t 20), none),
         (.mv 3 21, none)]))))
    (.kill [0, 3, 11, 12, 13] [1000, 1001] (.region [
       (.p 22 (.bin .add) [.t 13, .c (.pv (.int .i64 1))], none),
       (.p 13 .id [.t 22], none)])))))
def irQueueQueueAll : IR := (.seq (.region [
    (.p 2 .id [.c (.os 36 7 [])], none)])
 (.seq (.seq (.kill [0] [1000, 1001] (.region [
      (.p 6 .id [.t 0], none),
      (.p 7 (.peq false) [.t 6, .c (.pv .nilp)], none)]))
   (.cond (.t 7)
    (.seq (.kill [0] [1000, 1001] (.region [
        (.p 2 .id [.c (.os 36 7 [])], none)]))
     .ret)
    .skip))
  (.seq (.kill [0] [1000, 1001] (.region [
      (.p 3 .id [.c (.os 36 7 [])], none)]))
   (.seq (.seq (.kill [0, 3] [1000, 1001] (.region [
        (.p 8 .id [.t 0], none),
        (.p 9 .nilc [.t 8], none),
        (.p 10 (.fieldAddr 0) [.t 9], none),
        (.load 11 none (some 1000) (.t 10), none),
        (.p 12 (.len none) [.t 11], none),
        (.p 13 .id [.c (.pv (.int .i64 0))], none)]))
     (.block 0 (.loop (.kill [0, 3, 11, 12, 13] [1000, 1001] irQueueQueueAll_L1))))
    (.seq (.kill [0, 3] [1000, 1001] (.region [
        (.mv 23 3, none),
        (.mv 2 23, none)]))
     .ret)))))
theorem okQueueQueueAll : okFn Try.prog Try.f15 irQueueQueueAll [.t 2] [] 1 = true := by kernel_rfl

-- queue.Queue.Len
-- queue.Queue.Len: args [30]; lent [0, None]; rs [.t 2]; loops: 
def irQueueQueueLen : IR := (.seq (.region [
    (.p 2 .id [.c (.pv (.int .i64 0))], none)])
 (.seq (.seq (.kill [0] [1000, 1001] (.region [
      (.p 3 .id [.t 0], none),
      (.p 4 (.peq false) [.t 3, .c (.pv .nilp)], none)]))
   (.cond (.t 4)
    (.seq (.kill [0] [1000, 1001] (.region [
        (.p 2 .id [.c (.pv (.int .i64 0))], none)]))
     .ret)
    .skip))
  (.seq (.kill [0] [1000, 1001] (.region [
      (.p 5 .id [.t 0], none),
      (.p 6 .nilc [.t 5], none),
      (.p 7 (.fieldAddr 0) [.t 6], none),
      (.load 8 none (some 1000) (.t 7), none),
      (.p 9 (.len none) [.t 8], none),
      (.p 2 .id [.t 9], none)]))
   .ret)))
theorem okQueueQueueLen : okFn Try.prog Try.f22 irQueueQueueLen [.t 2] [] 1 = true := by kernel_rfl

-- consistoryref16.Add
-- consistoryref16.Add: args [41, 36]; lent []; rs [.t 4, .t 5]; loops: L1 keeps [0, 3, 6] [3]
def irRef16Add_L1 : IR := (.seq (.seq (.kill [0, 3, 6] [3] (.region [
      (.p 12 .id [.t 6], none),
      (.p 13 .id [.t 0], none),
      (.p 14 (.len none) [.t 13], none),
      (.p 15 (.bin .lss) [.t 12, .t 14], none)]))
   (.cond (.t 15)
    .skip
    (.exit 0)))
  (.seq (.block 1 (.seq (.kill [0, 3, 6] [3] (.region [
        (.p 18 .id [.t 0], none),
        (.p 19 .id [.t 6], none),
        (.p 20 (.indexAddr none 7) [.t 18, .t 19], none),
        (.p 21 (.fieldAddr 0) [.t 20], none),
        (.load 22 none (some 9999) (.t 21), none),
        (.p 23 (.fieldAddr 0) [.t 3], none),
        (.load 24 none (some 3) (.t 23), none),
        (.p 25 (.bin .eql) [.t 22, .t 24], none),
        (.p 26 .id [.t 25], none),
        (.p 27 .id [.t 0], some (26, true)),
        (.p 28 .id [.t 6], some (26, true)),
        (.p 29 (.indexAddr none 7) [.t 27, .t 28], some (26, true)),
        (.p 30 (.fieldAddr 1) [.t 29], some (26, true)),
        (.load 31 none (some 9999) (.t 30), some (26, true)),
        (.p 32 (.fieldAddr 1) [.t 3], some (26, true)),
        (.load 33 none (some 3) (.t 32), some (26, true)),
        (.p 34 (.bin .eql) [.t 31, .t 33], some (26, true)),
        (.p 35 .pick [.t 26, .t 34, .c (.pv (.bool false))], none)]))
     (.cond (.t 35)
      (.seq (.kill [0] [] (.region [
          (.mv 36 0, none),
          (.mv 4 36, none),
          (.p 5 .id [.c (.pv (.int .i64 7))], none)]))
       .ret)
      .skip)))
   (.kill [0, 3, 6] [3] (.region [
      (.p 16 .id [.t 6], none),
      (.p 17 (.bin .add) [.t 16, .c (.pv (.int .i64 1))], none),
      (.p 6 .id [.t 17], none)]))))
def irRef16Add : IR := (.seq (.region [
    (.box 3 (.t 1), none),
    (.p 4 .id [.c (.os 36 7 [])], none),
    (.p 5 .id [.c (.pv (.int .i64 0))], none)])
 (.seq (.seq (.kill [0, 3] [3] (.region [
      (.load 8 (some (7, true)) (some 3) (.t 3), none),
      (.call 9 26 [.t 8] [] [] [], none),
      (.p 10 (.un .not) [.t 9], none)]))
   (.cond (.t 10)
    (.seq (.kill [0] [] (.region [
        (.mv 11 0, none),
        (.mv 4 11, none),
        (.p 5 .id [.c (.pv (.int .i64 15))], none)]))
     .ret)
    .skip))
  (.seq (.seq (.kill [0, 3] [3] (.region [
       (.p 6 .id [.c (.pv (.int .i64 0))], none)]))
    (.block 0 (.loop (.kill [0, 3, 6] [3] irRef16Add_L1))))
   (.seq (.seq (.kill [0, 3] [3] (.region [
        (.p 37 .id [.t 0], none),
        (.p 38 (.len none) [.t 37], none),
        (.p 39 (.bin .geq) [.t 38, .c (.pv (.int .i64 12))], none)]))
     (.cond (.t 39)
      (.seq (.kill [0] [] (.region [
          (.mv 40 0, none),
          (.mv 4 40, none),
          (.p 5 .id [.c (.pv (.int .i64 4))], none)]))
       .ret)
      .skip))
    (.seq (.kill [0, 3] [3] (.region [
        (.p 7 .id [.c (.os 36 7 [])], none)]))
     (.seq (.kill [0, 3, 7] [3] (.region [
         (.mv 41 7, none),
         (.mv 42 0, none),
         (.app 43 36 7 41 none (.t 42), none),
         (.mv 7 43, none)]))
      (.seq (.kill [3, 7] [3] (.region [
          (.mv 44 7, none),
          (.load 45 (some (7, true)) (some 3) (.t 3), none),
          (.bslice 46 36 7 1 [.int .i64 0, .int .i64 0, .int .i64 0, .int .i64 0, .int .i64 0, .int .i64 0, .sl 1 []] [(0, .t 45)], none),
          (.app 47 36 7 44 none (.t 46), none),
          (.mv 7 47, none)]))
       (.seq (.kill [7] [] (.region [
           (.mv 48 7, none),
           (.mv 4 48, none),
           (.p 5 .id [.c (.pv (.int .i64 0))], none)]))
        .ret))))))))
theorem okRef16Add : okFn Try.prog Try.f17 irRef16Add [.t 4, .t 5] [] 2 = true := by kernel_rfl

-- consistoryref16.Batch
-- consistoryref16.Batch: args [41, 27]; lent []; rs [.t 4]; loops: L2 keeps [0, 3, 5, 6, 7, 8] [3]; L1 keeps [0, 3, 5, 6] [3]
def irRef16Batch_L2 : IR := (.seq (.seq (.kill [0, 3, 5, 6, 7, 8] [3] (.region [
      (.p 34 .id [.t 8], none),
      (.p 35 .id [.t 5], none),
      (.p 36 (.len none) [.t 35], none),
      (.p 37 (.bin .lss) [.t 34, .t 36], none)]))
   (.cond (.t 37)
    .skip
    (.exit 2)))
  (.seq (.block 3 (.seq (.kill [0, 3, 5, 6, 7, 8] [3] (.region [
        (.p 40 .id [.t 5], none),
        (.p 41 .id [.t 8], none),
        (.p 42 (.indexAddr none 7) [.t 40, .t 41], none),
        (.p 43 (.fieldAddr 0) [.t 42], none),
        (.load 44 none (some 9999) (.t 43), none),
        (.p 45 .id [.t 0], none),
        (.p 46 .id [.t 6], none),
        (.p 47 (.indexAddr none 7) [.t 45, .t 46], none),
        (.p 48 (.fieldAddr 0) [.t 47], none),
        (.load 49 none (some 9999) (.t 48), none),
        (.p 50 (.bin .eql) [.t 44, .t 49], none),
        (.p 51 .id [.t 50], none),
        (.p 52 .id [.t 5], some (51, true)),
        (.p 53 .id [.t 8], some (51, true)),
        (.p 54 (.indexAddr none 7) [.t 52, .t 53], some (51, true)),
        (.p 55 (.fieldAddr 1) [.t 54], some (51, true)),
        (.load 56 none (some 9999) (.t 55), some (51, true)),
        (.p 57 .id [.t 0], some (51, true)),
        (.p 58 .id [.t 6], some (51, true)),
        (.p 59 (.indexAddr none 7) [.t 57, .t 58], some (51, true)),
        (.p 60 (.fieldAddr 1) [.t 59], some (51, true)),
        (.load 61 none (some 9999) (.t 60), some (51, true)),
        (.p 62 (.bin .geq) [.t 56, .t 61], some (51, true)),
        (.p 63 .pick [.t 51, .t 62, .c (.pv (.bool false))], none)]))
     (.cond (.t 63)
      (.kill [0, 3, 5, 6, 8] [3] (.region [
         (.p 7 .id [.c (.pv (.bool false))], none)]))
      .skip)))
   (.kill [0, 3, 5, 6, 7, 8] [3] (.region [
      (.p 38 .id [.t 8], none),
      (.p 39 (.bin .add) [.t 38, .c (.pv (.int .i64 1))], none),
      (.p 8 .id [.t 39], none)]))))
def irRef16Batch_L1 : IR := (.seq (.seq (.kill [0, 3, 5, 6] [3] (.region [
      (.p 9 .id [.t 6], none),
      (.p 10 .id [.t 0], none),
      (.p 11 (.len none) [.t 10], none),
      (.p 12 (.bin .lss) [.t 9, .t 11], none),
      (.p 13 .id [.t 12], none),
      (.p 14 .id [.t 5], some (13, true)),
      (.p 15 (.len none) [.t 14], some (13, true)),
      (.p 16 (.bin .lss) [.t 15, .c (.pv (.int .i64 4))], some (13, true)),
      (.p 17 .pick [.t 13, .t 16, .c (.pv (.bool false))], none)]))
   (.cond (.t 17)
    .skip
    (.exit 0)))
  (.seq (.block 1 (.seq (.kill [0, 3, 5, 6] [3] (.region [
        (.p 20 .id [.t 0], none),
        (.p 21 .id [.t 6], none),
        (.p 22 (.indexAddr none 7) [.t 20, .t 21], none),
        (.p 23 (.fieldAddr 1) [.t 22], none),
        (.load 24 none (some 9999) (.t 23), none),
        (.p 25 .id [.t 0], none),
        (.p 26 .id [.t 6], none),
        (.p 27 (.indexAddr none 7) [.t 25, .t 26], none),
        (.p 28 (.fieldAddr 0) [.t 27], none),
        (.load 29 none (some 9999) (.t 28), none),
        (.p 30 (.indexAddr (some 6) 5) [.t 3, .t 29], none),
        (.p 31 (.fieldAddr 1) [.t 30], none),
        (.load 32 none (some 3) (.t 31), none),
        (.p 33 (.bin .gtr) [.t 24, .t 32], none),
        (.p 7 .id [.t 33], none)]))
     (.seq (.seq (.kill [0, 3, 5, 6, 7] [3] (.region [
          (.p 8 .id [.c (.pv (.int .i64 0))], none)]))
       (.block 2 (.loop (.kill [0, 3, 5, 6, 7, 8] [3] irRef16Batch_L2))))
      (.seq (.kill [0, 3, 5, 6, 7] [3] (.region [
          (.p 64 .id [.t 7], none)]))
       (.cond (.t 64)
        (.kill [0, 3, 5, 6] [3] (.region [
           (.mv 65 5, none),
           (.p 66 .id [.t 0], none),
           (.p 67 .id [.t 6], none),
           (.p 68 (.indexAddr none 7) [.t 66, .t 67], none),
           (.load 69 (some (7, true)) (some 9999) (.t 68), none),
           (.bslice 70 36 7 1 [.int .i64 0, .int .i64 0, .int .i64 0, .int .i64 0, .int .i64 0, .int .i64 0, .sl 1 []] [(0, .t 69)], none),
           (.app 71 36 7 65 none (.t 70), none),
           (.mv 5 71, none)]))
        .skip)))))
   (.kill [0, 3, 5, 6] [3] (.region [
      (.p 18 .id [.t 6], none),
      (.p 19 (.bin .add) [.t 18, .c (.pv (.int .i64 1))], none),
      (.p 6 .id [.t 19], none)]))))
def irRef16Batch : IR := (.seq (.region [
    (.box 3 (.t 1), none),
    (.p 4 .id [.c (.os 36 7 [])], none)])
 (.seq (.kill [0, 3] [3] (.region [
     (.p 5 .id [.c (.os 36 7 [])], none)]))
  (.seq (.seq (.kill [0, 3, 5] [3] (.region [
       (.p 6 .id [.c (.pv (.int .i64 0))], none)]))
    (.block 0 (.loop (.kill [0, 3, 5, 6] [3] irRef16Batch_L1))))
   (.seq (.kill [5] [] (.region [
       (.mv 72 5, none),
       (.mv 4 72, none)]))
    .ret))))
theorem okRef16Batch : okFn Try.prog Try.f19 irRef16Batch [.t 4] [] 2 = true := by kernel_rfl

-- consistoryref16.Drop
-- consistoryref16.Drop: args [41, 27]; lent []; rs [.t 4]; loops: L1 keeps [0, 3, 5, 6] [3]
def irRef16Drop_L1 : IR := (.seq (.seq (.kill [0, 3, 5, 6] [3] (.region [
      (.p 7 .id [.t 6], none),
      (.p 8 .id [.t 0], none),
      (.p 9 (.len none) [.t 8], none),
      (.p 10 (.bin .lss) [.t 7, .t 9], none)]))
   (.cond (.t 10)
    .skip
    (.exit 0)))
  (.seq (.block 1 (.seq (.kill [0, 3, 5, 6] [3] (.region [
        (.p 13 .id [.t 0], none),
        (.p 14 .id [.t 6], none),
        (.p 15 (.indexAddr none 7) [.t 13, .t 14], none),
        (.p 16 (.fieldAddr 1) [.t 15], none),
        (.load 17 none (some 9999) (.t 16), none),
        (.p 18 .id [.t 0], none),
        (.p 19 .id [.t 6], none),
        (.p 20 (.indexAddr none 7) [.t 18, .t 19], none),
        (.p 21 (.fieldAddr 0) [.t 20], none),
        (.load 22 none (some 9999) (.t 21), none),
        (.p 23 (.indexAddr (some 6) 5) [.t 3, .t 22], none),
        (.p 24 (.fieldAddr 1) [.t 23], none),
        (.load 25 none (some 3) (.t 24), none),
        (.p 26 (.bin .gtr) [.t 17, .t 25], none)]))
     (.cond (.t 26)
      (.kill [0, 3, 5, 6] [3] (.region [
         (.mv 27 5, none),
         (.p 28 .id [.t 0], none),
         (.p 29 .id [.t 6], none),
         (.p 30 (.indexAddr none 7) [.t 28, .t 29], none),
         (.load 31 (some (7, true)) (some 9999) (.t 30), none),
         (.bslice 32 36 7 1 [.int .i64 0, .int .i64 0, .int .i64 0, .int .i64 0, .int .i64 0, .int .i64 0, .sl 1 []] [(0, .t 31)], none),
         (.app 33 36 7 27 none (.t 32), none),
         (.mv 5 33, none)]))
      .skip)))
   (.kill [0, 3, 5, 6] [3] (.region [
      (.p 11 .id [.t 6], none),
      (.p 12 (.bin .add) [.t 11, .c (.pv (.int .i64 1))], none),
      (.p 6 .id [.t 12], none)]))))
def irRef16Drop : IR := (.seq (.region [
    (.box 3 (.t 1), none),
    (.p 4 .id [.c (.os 36 7 [])], none)])
 (.seq (.kill [0, 3] [3] (.region [
     (.p 5 .id [.c (.os 36 7 [])], none)]))
  (.seq (.seq (.kill [0, 3, 5] [3] (.region [
       (.p 6 .id [.c (.pv (.int .i64 0))], none)]))
    (.block 0 (.loop (.kill [0, 3, 5, 6] [3] irRef16Drop_L1))))
   (.seq (.kill [5] [] (.region [
       (.mv 34 5, none),
       (.mv 4 34, none)]))
    .ret))))
theorem okRef16Drop : okFn Try.prog Try.f21 irRef16Drop [.t 4] [] 2 = true := by kernel_rfl

-- consistorylaw16.get
-- consistorylaw16.get: args [3]; lent []; rs [.cell 2 (some (7, true))]; loops: 
def irLaw16Get : IR := (.seq (.region [
    (.alloc 2 (.agg [.pv (.int .i64 0), .pv (.int .i64 0), .pv (.int .i64 0), .pv (.int .i64 0), .pv (.int .i64 0), .pv (.int .i64 0), .os 5 1 []]), none)])
 (.seq (.kill [0, 2] [2] (.region [
     (.p 3 .id [.t 0], none),
     (.build 4 (.pagg (List.replicate 4 (.int .i64 0))) [(0, 1, .c (.pv (.int .i64 1)))], none),
     (.build 5 (.pagg [.int .i64 0, .int .i64 0, .int .i64 0, .int .i64 0, .int .i64 0, .int .i64 0, .sl 1 []]) [(0, 1, .c (.pv (.int .i64 1))), (1, 1, .t 3), (2, 4, .t 4)], none),
     (.store (some (7, true)) (some 2) (.t 2) (.t 5), none)]))
  .ret))
theorem okLaw16Get : okFn Try.prog Try.f23 irLaw16Get [.cell 2 (some (7, true))] [] 1 = true := by kernel_rfl

-- consistorylaw16.wakes
-- consistorylaw16.wakes: args []; lent []; rs [.t 0]; loops: 
def irLaw16Wakes : IR := (.seq (.region [
    (.p 0 .id [.c (.pv (.bool false))], none)])
 (.seq (.kill [] [] (.region [
     (.call 3 11 [] [] [3, 503] [], none),
     (.p 1 .id [.t 3], none)]))
  (.seq (.seq (.kill [1] [3, 503] (.region [
       (.p 4 .id [.t 1], none),
       (.call 5 23 [.c (.pv (.int .i64 1))] [] [] [], none),
       (.call 6 12 [.t 4, .t 5] [3, 503] [] [], none),
       (.p 7 (.bin .neq) [.t 6, .c (.pv (.int .i64 0))], none),
       (.p 8 .id [.t 7], none),
       (.p 9 .id [.t 1], some (8, false)),
       (.call 10 23 [.c (.pv (.int .i64 3))] [] [] [], some (8, false)),
       (.call 11 12 [.t 9, .t 10] [3, 503] [] [], some (8, false)),
       (.p 12 (.bin .neq) [.t 11, .c (.pv (.int .i64 0))], some (8, false)),
       (.p 13 .pick [.t 8, .c (.pv (.bool true)), .t 12], none),
       (.p 14 .id [.t 13], none),
       (.p 15 .id [.t 1], some (14, false)),
       (.call 16 23 [.c (.pv (.int .i64 2))] [] [] [], some (14, false)),
       (.call 17 12 [.t 15, .t 16] [3, 503] [] [], some (14, false)),
       (.p 18 (.bin .neq) [.t 17, .c (.pv (.int .i64 0))], some (14, false)),
       (.p 19 .pick [.t 14, .c (.pv (.bool true)), .t 18], none)]))
    (.cond (.t 19)
     (.seq (.kill [] [] (.region [
         (.p 0 .id [.c (.pv (.bool false))], none)]))
      .ret)
     .skip))
   (.seq (.kill [1] [3, 503] (.region [
       (.p 20 .id [.t 1], none),
       (.build 21 (.pagg [.int .i64 0, .int .i64 0, .int .i64 0, .bool false, .int .i64 0, .int .i64 0, .int .i64 0, .int .i64 0, .bool false, .int .i64 0, .int .i64 0, .int .i64 0, .int .i64 0, .bool false, .int .i64 0, .int .i64 0, .int .i64 0, .int .i64 0, .bool false, .int .i64 0, .int .i64 0, .int .i64 0, .int .i64 0, .bool false, .int .i64 0, .int .i64 0, .int .i64 0, .int .i64 0, .bool false, .int .i64 0]) [], none),
       (.call 22 13 [.t 20, .t 21] [3, 503] [] [], none),
       (.mv 2 22, none)]))
    (.seq (.kill [1, 2] [3, 503] (.region [
        (.p 23 .id [.t 2], none),
        (.p 24 (.len none) [.t 23], none),
        (.p 25 (.bin .eql) [.t 24, .c (.pv (.int .i64 2))], none),
        (.p 26 .id [.t 25], none),
        (.p 27 .id [.t 2], some (26, true)),
        (.p 28 (.indexAddr none 7) [.t 27, .c (.pv (.int .i64 0))], some (26, true)),
        (.p 29 (.fieldAddr 1) [.t 28], some (26, true)),
        (.load 30 none (some 9999) (.t 29), some (26, true)),
        (.p 31 (.bin .eql) [.t 30, .c (.pv (.int .i64 1))], some (26, true)),
        (.p 32 .pick [.t 26, .t 31, .c (.pv (.bool false))], none),
        (.p 33 .id [.t 32], none),
        (.p 34 .id [.t 2], some (33, true)),
        (.p 35 (.indexAddr none 7) [.t 34, .c (.pv (.int .i64 1))], some (33, true)),
        (.p 36 (.fieldAddr 1) [.t 35], some (33, true)),
        (.load 37 none (some 9999) (.t 36), some (33, true)),
        (.p 38 (.bin .eql) [.t 37, .c (.pv (.int .i64 3))], some (33, true)),
        (.p 39 .pick [.t 33, .t 38, .c (.pv (.bool false))], none),
        (.p 40 .id [.t 39], none),
        (.p 41 .id [.t 1], some (40, true)),
        (.call 42 22 [.t 41] [3, 503] [] [], some (40, true)),
        (.p 43 (.bin .eql) [.t 42, .c (.pv (.int .i64 3))], some (40, true)),
        (.p 44 .pick [.t 40, .t 43, .c (.pv (.bool false))], none),
        (.p 0 .id [.t 44], none)]))
     .ret)))))
theorem okLaw16Wakes : okFn Try.prog Try.f9 irLaw16Wakes [.t 0] [] 0 = true := by kernel_rfl

-- consistorylaw16.long
-- consistorylaw16.long: args [22]; lent []; rs [.t 2]; loops: L1 keeps [0, 8, 9] []
def irLaw16Long_L1 : IR := (.seq (.kill [0, 8, 9] [] (.region [
     (.p 10 (.bin .lss) [.t 9, .t 8], none)]))
  (.seq (.cond (.t 10)
    .skip
    (.exit 0))
   (.seq (.block 1 (.seq (.kill [0, 8, 9] [] (.region [
         (.p 11 .id [.t 9], none),
         (.p 3 .id [.t 11], none)]))
      (.seq (.kill [0, 3, 8, 9] [] (.region [
          (.p 12 .id [.t 0], none),
          (.p 13 .id [.t 3], none),
          (.p 14 (.indexAddr none 38) [.t 12, .t 13], none),
          (.p 15 (.fieldAddr 1) [.t 14], none),
          (.p 16 (.fieldAddr 6) [.t 15], none),
          (.load 17 none (some 9999) (.t 16), none),
          (.p 18 (.len none) [.t 17], none),
          (.p 19 (.bin .gtr) [.t 18, .c (.pv (.int .i64 2000))], none)]))
       (.cond (.t 19)
        (.seq (.kill [] [] (.region [
            (.p 2 .id [.c (.pv (.bool true))], none)]))
         .ret)
        .skip))))
    (.kill [0, 8, 9] [] (.region [
       (.p 20 (.bin .add) [.t 9, .c (.pv (.int .i64 1))], none),
       (.p 9 .id [.t 20], none)])))))
def irLaw16Long : IR := (.seq (.region [
    (.p 2 .id [.c (.pv (.bool false))], none)])
 (.seq (.seq (.kill [0] [] (.region [
      (.p 4 .id [.t 0], none),
      (.p 5 (.len none) [.t 4], none),
      (.p 6 (.bin .gtr) [.t 5, .c (.pv (.int .i64 60))], none)]))
   (.cond (.t 6)
    (.seq (.kill [] [] (.region [
        (.p 2 .id [.c (.pv (.bool true))], none)]))
     .ret)
    .skip))
  (.seq (.seq (.kill [0] [] (.region [
       (.p 7 .id [.t 0], none),
       (.p 8 (.len none) [.t 7], none),
       (.p 9 .id [.c (.pv (.int .i64 0))], none)]))
    (.block 0 (.loop (.kill [0, 8, 9] [] irLaw16Long_L1))))
   (.seq (.kill [] [] (.region [
       (.p 2 .id [.c (.pv (.bool false))], none)]))
    .ret))))
theorem okLaw16Long : okFn Try.prog Try.f10 irLaw16Long [.t 2] [] 1 = true := by kernel_rfl

-- consistorylaw16.QueueNil
-- consistorylaw16.QueueNil: args [36]; lent []; rs [.t 2]; loops: 
def irLaw16QueueNil : IR := (.seq (.region [
    (.box 1 (.t 0), none),
    (.p 2 .id [.c (.pv (.bool false))], none)])
 (.seq (.kill [1] [1] (.region [
     (.p 3 .id [.c (.pv .nilp)], none)]))
  (.seq (.kill [1, 3] [1] (.region [
      (.p 4 .id [.t 3], none),
      (.build 5 (.pagg [.int .i64 0, .int .i64 0, .int .i64 0, .bool false, .int .i64 0, .int .i64 0, .int .i64 0, .int .i64 0, .bool false, .int .i64 0, .int .i64 0, .int .i64 0, .int .i64 0, .bool false, .int .i64 0, .int .i64 0, .int .i64 0, .int .i64 0, .bool false, .int .i64 0, .int .i64 0, .int .i64 0, .int .i64 0, .bool false, .int .i64 0, .int .i64 0, .int .i64 0, .int .i64 0, .bool false, .int .i64 0]) [], none),
      (.call 6 20 [.t 4, .t 5] [] [] [], none)]))
   (.seq (.kill [1, 3] [1] (.region [
       (.call 7 9 [] [] [] [], none),
       (.p 8 .id [.t 7], none),
       (.p 9 .id [.t 3], some (8, true)),
       (.load 10 (some (7, true)) (some 1) (.t 1), some (8, true)),
       (.call 11 12 [.t 9, .t 10] [] [] [], some (8, true)),
       (.p 12 (.bin .eql) [.t 11, .c (.pv (.int .i64 16))], some (8, true)),
       (.p 13 .pick [.t 8, .t 12, .c (.pv (.bool false))], none),
       (.p 14 .id [.t 13], none),
       (.p 15 .id [.t 3], some (14, true)),
       (.build 16 (.pagg [.int .i64 0, .int .i64 0, .int .i64 0, .bool false, .int .i64 0, .int .i64 0, .int .i64 0, .int .i64 0, .bool false, .int .i64 0, .int .i64 0, .int .i64 0, .int .i64 0, .bool false, .int .i64 0, .int .i64 0, .int .i64 0, .int .i64 0, .bool false, .int .i64 0, .int .i64 0, .int .i64 0, .int .i64 0, .bool false, .int .i64 0, .int .i64 0, .int .i64 0, .int .i64 0, .bool false, .int .i64 0]) [], some (14, true)),
       (.call 17 13 [.t 15, .t 16] [] [] [], some (14, true)),
       (.p 18 (.len none) [.t 17], some (14, true)),
       (.p 19 (.bin .eql) [.t 18, .c (.pv (.int .i64 0))], some (14, true)),
       (.p 20 .pick [.t 14, .t 19, .c (.pv (.bool false))], none),
       (.p 21 .id [.t 20], none),
       (.p 22 .id [.t 3], some (21, true)),
       (.call 23 15 [.t 22] [] [] [], some (21, true)),
       (.p 24 (.len none) [.t 23], some (21, true)),
       (.p 25 (.bin .eql) [.t 24, .c (.pv (.int .i64 0))], some (21, true)),
       (.p 26 .pick [.t 21, .t 25, .c (.pv (.bool false))], none),
       (.p 27 .id [.t 26], none),
       (.p 28 .id [.t 3], some (27, true)),
       (.call 29 22 [.t 28] [] [] [], some (27, true)),
       (.p 30 (.bin .eql) [.t 29, .c (.pv (.int .i64 0))], some (27, true)),
       (.p 31 .pick [.t 27, .t 30, .c (.pv (.bool false))], none),
       (.p 2 .id [.t 31], none)]))
    .ret))))
theorem okLaw16QueueNil : okFn Try.prog Try.f7 irLaw16QueueNil [.t 2] [] 1 = true := by kernel_rfl

-- consistorylaw16.QueueFormed
-- consistorylaw16.QueueFormed: args [22, 27]; lent []; rs [.t 4]; loops: L1 keeps [3, 5, 16, 17, 18] [3, 15, 515]; L2 keeps [3, 8, 30, 31, 32] [3]
def irLaw16QueueFormed_L1 : IR := (.seq (.kill [3, 5, 16, 17, 18] [3, 15, 515] (.region [
     (.p 19 (.bin .lss) [.t 18, .t 17], none)]))
  (.seq (.cond (.t 19)
    .skip
    (.exit 0))
   (.seq (.block 1 (.seq (.kill [3, 5, 16, 17, 18] [3, 15, 515] (.region [
         (.p 20 (.indexAddr none 38) [.t 16, .t 18], none),
         (.load 21 (some (38, true)) (some 9999) (.t 20), none),
         (.alloc 7 (.agg [.pv (.int .i64 0), .pv (.int .i64 0), .pv (.int .i64 0), .pv (.int .i64 0), .pv (.int .i64 0), .pv (.int .i64 0), .pv (.int .i64 0), .os 5 1 [], .pv (.int .i64 0), .pv (.int .i64 0), .pv (.int .i64 0), .pv (.bool false), .pv (.int .i64 0), .pv (.int .i64 0), .pv (.int .i64 0), .pv (.int .i64 0), .pv (.bool false), .pv (.int .i64 0), .pv (.int .i64 0), .pv (.int .i64 0), .pv (.int .i64 0), .pv (.bool false), .pv (.int .i64 0), .pv (.int .i64 0), .pv (.int .i64 0), .pv (.int .i64 0), .pv (.bool false), .pv (.int .i64 0), .pv (.int .i64 0), .pv (.int .i64 0), .pv (.int .i64 0), .pv (.bool false), .pv (.int .i64 0), .pv (.int .i64 0), .pv (.int .i64 0), .pv (.int .i64 0), .pv (.bool false), .pv (.int .i64 0)]), none),
         (.store (some (38, true)) (some 7) (.t 7) (.t 21), none)]))
      (.kill [3, 5, 7, 16, 17, 18] [3, 7, 15, 515] (.region [
         (.p 22 .id [.t 5], none),
         (.p 23 (.fieldAddr 1) [.t 7], none),
         (.load 24 (some (7, false)) (some 7) (.t 23), none),
         (.call 25 12 [.t 22, .t 24] [15, 515] [] [], none)]))))
    (.kill [3, 5, 16, 17, 18] [3, 15, 515] (.region [
       (.p 26 (.bin .add) [.t 18, .c (.pv (.int .i64 1))], none),
       (.p 18 .id [.t 26], none)])))))
def irLaw16QueueFormed_L2 : IR := (.seq (.kill [3, 8, 30, 31, 32] [3] (.region [
     (.p 33 (.bin .lss) [.t 32, .t 31], none)]))
  (.seq (.cond (.t 33)
    .skip
    (.exit 2))
   (.seq (.block 3 (.seq (.kill [3, 8, 30, 31, 32] [3] (.region [
         (.p 34 (.indexAddr none 7) [.t 30, .t 32], none),
         (.load 35 (some (7, true)) (some 9999) (.t 34), none),
         (.alloc 10 (.agg [.pv (.int .i64 0), .pv (.int .i64 0), .pv (.int .i64 0), .pv (.int .i64 0), .pv (.int .i64 0), .pv (.int .i64 0), .os 5 1 []]), none),
         (.store (some (7, true)) (some 10) (.t 10) (.t 35), none)]))
      (.seq (.kill [3, 8, 10, 30, 31, 32] [3, 10] (.region [
          (.p 36 (.fieldAddr 1) [.t 10], none),
          (.load 37 none (some 10) (.t 36), none),
          (.p 38 (.fieldAddr 0) [.t 10], none),
          (.load 39 none (some 10) (.t 38), none),
          (.p 40 (.indexAddr (some 6) 5) [.t 3, .t 39], none),
          (.p 41 (.fieldAddr 1) [.t 40], none),
          (.load 42 none (some 3) (.t 41), none),
          (.p 43 (.bin .leq) [.t 37, .t 42], none)]))
       (.cond (.t 43)
        (.seq (.kill [] [] (.region [
            (.p 4 .id [.c (.pv (.bool false))], none)]))
         .ret)
        .skip))))
    (.kill [3, 8, 30, 31, 32] [3] (.region [
       (.p 44 (.bin .add) [.t 32, .c (.pv (.int .i64 1))], none),
       (.p 32 .id [.t 44], none)])))))
def irLaw16QueueFormed : IR := (.seq (.region [
    (.box 3 (.t 1), none),
    (.p 4 .id [.c (.pv (.bool false))], none)])
 (.seq (.seq (.kill [0, 3] [3] (.region [
      (.call 11 9 [] [] [] [], none),
      (.p 12 (.un .not) [.t 11], none)]))
   (.cond (.t 12)
    (.seq (.kill [] [] (.region [
        (.p 4 .id [.c (.pv (.bool false))], none)]))
     .ret)
    .skip))
  (.seq (.seq (.kill [0, 3] [3] (.region [
       (.p 13 .id [.t 0], none),
       (.call 14 10 [.t 13] [] [] [], none)]))
    (.cond (.t 14)
     (.seq (.kill [] [] (.region [
         (.p 4 .id [.c (.pv (.bool true))], none)]))
      .ret)
     .skip))
   (.seq (.kill [0, 3] [3] (.region [
       (.call 15 11 [] [] [15, 515] [], none),
       (.p 5 .id [.t 15], none)]))
    (.seq (.seq (.kill [0, 3, 5] [3, 15, 515] (.region [
         (.mv 16 0, none),
         (.p 17 (.len none) [.t 16], none),
         (.p 18 .id [.c (.pv (.int .i64 0))], none)]))
      (.block 0 (.loop (.kill [3, 5, 16, 17, 18] [3, 15, 515] irLaw16QueueFormed_L1))))
     (.seq (.kill [3, 5] [3, 15, 515] (.region [
         (.p 27 .id [.t 5], none),
         (.load 28 (some (30, true)) (some 3) (.t 3), none),
         (.call 29 13 [.t 27, .t 28] [15, 515] [] [], none),
         (.mv 8 29, none)]))
      (.seq (.seq (.kill [3, 8] [3] (.region [
           (.p 30 .id [.t 8], none),
           (.p 31 (.len none) [.t 30], none),
           (.p 32 .id [.c (.pv (.int .i64 0))], none)]))
        (.block 2 (.loop (.kill [3, 8, 30, 31, 32] [3] irLaw16QueueFormed_L2))))
       (.seq (.kill [8] [] (.region [
           (.p 45 .id [.t 8], none),
           (.p 46 (.len none) [.t 45], none),
           (.p 47 (.bin .eql) [.t 46, .c (.pv (.int .i64 0))], none),
           (.p 48 .id [.t 47], none),
           (.p 49 .id [.t 8], some (48, false)),
           (.call 50 14 [.t 49] [] [] [], some (48, false)),
           (.p 51 .pick [.t 48, .c (.pv (.bool true)), .t 50], none),
           (.p 4 .id [.t 51], none)]))
        .ret))))))))
theorem okLaw16QueueFormed : okFn Try.prog Try.f3 irLaw16QueueFormed [.t 4] [] 2 = true := by kernel_rfl

-- consistorylaw16.QueueLeast
-- consistorylaw16.QueueLeast: args [22, 27]; lent []; rs [.t 4]; loops: L1 keeps [3, 5, 16, 17, 18] [3, 15, 515]; L2 keeps [3, 8, 31, 32, 33] [3]
def irLaw16QueueLeast_L1 : IR := (.seq (.kill [3, 5, 16, 17, 18] [3, 15, 515] (.region [
     (.p 19 (.bin .lss) [.t 18, .t 17], none)]))
  (.seq (.cond (.t 19)
    .skip
    (.exit 0))
   (.seq (.block 1 (.seq (.kill [3, 5, 16, 17, 18] [3, 15, 515] (.region [
         (.p 20 (.indexAddr none 38) [.t 16, .t 18], none),
         (.load 21 (some (38, true)) (some 9999) (.t 20), none),
         (.alloc 7 (.agg [.pv (.int .i64 0), .pv (.int .i64 0), .pv (.int .i64 0), .pv (.int .i64 0), .pv (.int .i64 0), .pv (.int .i64 0), .pv (.int .i64 0), .os 5 1 [], .pv (.int .i64 0), .pv (.int .i64 0), .pv (.int .i64 0), .pv (.bool false), .pv (.int .i64 0), .pv (.int .i64 0), .pv (.int .i64 0), .pv (.int .i64 0), .pv (.bool false), .pv (.int .i64 0), .pv (.int .i64 0), .pv (.int .i64 0), .pv (.int .i64 0), .pv (.bool false), .pv (.int .i64 0), .pv (.int .i64 0), .pv (.int .i64 0), .pv (.int .i64 0), .pv (.bool false), .pv (.int .i64 0), .pv (.int .i64 0), .pv (.int .i64 0), .pv (.int .i64 0), .pv (.bool false), .pv (.int .i64 0), .pv (.int .i64 0), .pv (.int .i64 0), .pv (.int .i64 0), .pv (.bool false), .pv (.int .i64 0)]), none),
         (.store (some (38, true)) (some 7) (.t 7) (.t 21), none)]))
      (.kill [3, 5, 7, 16, 17, 18] [3, 7, 15, 515] (.region [
         (.p 22 .id [.t 5], none),
         (.p 23 (.fieldAddr 1) [.t 7], none),
         (.load 24 (some (7, false)) (some 7) (.t 23), none),
         (.call 25 12 [.t 22, .t 24] [15, 515] [] [], none)]))))
    (.kill [3, 5, 16, 17, 18] [3, 15, 515] (.region [
       (.p 26 (.bin .add) [.t 18, .c (.pv (.int .i64 1))], none),
       (.p 18 .id [.t 26], none)])))))
def irLaw16QueueLeast_L2 : IR := (.seq (.kill [3, 8, 31, 32, 33] [3] (.region [
     (.p 34 (.bin .lss) [.t 33, .t 32], none)]))
  (.seq (.cond (.t 34)
    .skip
    (.exit 2))
   (.seq (.block 3 (.seq (.kill [3, 8, 31, 32, 33] [3] (.region [
         (.p 35 (.indexAddr none 7) [.t 31, .t 33], none),
         (.load 36 (some (7, true)) (some 9999) (.t 35), none),
         (.alloc 10 (.agg [.pv (.int .i64 0), .pv (.int .i64 0), .pv (.int .i64 0), .pv (.int .i64 0), .pv (.int .i64 0), .pv (.int .i64 0), .os 5 1 []]), none),
         (.store (some (7, true)) (some 10) (.t 10) (.t 36), none)]))
      (.seq (.kill [3, 8, 10, 31, 32, 33] [3, 10] (.region [
          (.p 37 (.fieldAddr 1) [.t 10], none),
          (.load 38 none (some 10) (.t 37), none),
          (.p 39 (.fieldAddr 0) [.t 10], none),
          (.load 40 none (some 10) (.t 39), none),
          (.p 41 (.indexAddr (some 6) 5) [.t 3, .t 40], none),
          (.p 42 (.fieldAddr 1) [.t 41], none),
          (.load 43 none (some 3) (.t 42), none),
          (.p 44 (.bin .gtr) [.t 38, .t 43], none)]))
       (.cond (.t 44)
        (.seq (.kill [8, 10] [10] (.region [
            (.p 45 .id [.t 8], none),
            (.p 46 (.len none) [.t 45], none),
            (.p 47 (.bin .gtr) [.t 46, .c (.pv (.int .i64 0))], none),
            (.p 48 .id [.t 47], none),
            (.p 49 .id [.t 8], some (48, true)),
            (.p 50 (.indexAddr none 7) [.t 49, .c (.pv (.int .i64 0))], some (48, true)),
            (.load 51 (some (7, true)) (some 9999) (.t 50), some (48, true)),
            (.load 52 (some (7, true)) (some 10) (.t 10), some (48, true)),
            (.call 53 16 [.t 51, .t 52] [] [] [], some (48, true)),
            (.p 54 .pick [.t 48, .t 53, .c (.pv (.bool false))], none),
            (.p 4 .id [.t 54], none)]))
         .ret)
        .skip))))
    (.kill [3, 8, 31, 32, 33] [3] (.region [
       (.p 55 (.bin .add) [.t 33, .c (.pv (.int .i64 1))], none),
       (.p 33 .id [.t 55], none)])))))
def irLaw16QueueLeast : IR := (.seq (.region [
    (.box 3 (.t 1), none),
    (.p 4 .id [.c (.pv (.bool false))], none)])
 (.seq (.seq (.kill [0, 3] [3] (.region [
      (.call 11 9 [] [] [] [], none),
      (.p 12 (.un .not) [.t 11], none)]))
   (.cond (.t 12)
    (.seq (.kill [] [] (.region [
        (.p 4 .id [.c (.pv (.bool false))], none)]))
     .ret)
    .skip))
  (.seq (.seq (.kill [0, 3] [3] (.region [
       (.p 13 .id [.t 0], none),
       (.call 14 10 [.t 13] [] [] [], none)]))
    (.cond (.t 14)
     (.seq (.kill [] [] (.region [
         (.p 4 .id [.c (.pv (.bool true))], none)]))
      .ret)
     .skip))
   (.seq (.kill [0, 3] [3] (.region [
       (.call 15 11 [] [] [15, 515] [], none),
       (.p 5 .id [.t 15], none)]))
    (.seq (.seq (.kill [0, 3, 5] [3, 15, 515] (.region [
         (.mv 16 0, none),
         (.p 17 (.len none) [.t 16], none),
         (.p 18 .id [.c (.pv (.int .i64 0))], none)]))
      (.block 0 (.loop (.kill [3, 5, 16, 17, 18] [3, 15, 515] irLaw16QueueLeast_L1))))
     (.seq (.kill [3, 5] [3, 15, 515] (.region [
         (.p 27 .id [.t 5], none),
         (.load 28 (some (30, true)) (some 3) (.t 3), none),
         (.call 29 13 [.t 27, .t 28] [15, 515] [] [], none),
         (.mv 8 29, none)]))
      (.seq (.seq (.kill [3, 5, 8] [3, 15, 515] (.region [
           (.p 30 .id [.t 5], none),
           (.call 31 15 [.t 30] [15, 515] [] [], none),
           (.p 32 (.len none) [.t 31], none),
           (.p 33 .id [.c (.pv (.int .i64 0))], none)]))
        (.block 2 (.loop (.kill [3, 8, 31, 32, 33] [3] irLaw16QueueLeast_L2))))
       (.seq (.kill [8] [] (.region [
           (.mv 56 8, none),
           (.p 57 (.len none) [.t 56], none),
           (.p 58 (.bin .eql) [.t 57, .c (.pv (.int .i64 0))], none),
           (.p 4 .id [.t 58], none)]))
        .ret))))))))
theorem okLaw16QueueLeast : okFn Try.prog Try.f4 irLaw16QueueLeast [.t 4] [] 2 = true := by kernel_rfl

-- consistorylaw16.QueueActs
-- consistorylaw16.QueueActs: args [22]; lent []; rs [.t 2]; loops: L1 keeps [3, 4, 15, 16, 17] [14, 514]
def irLaw16QueueActs_L1 : IR := (.seq (.kill [3, 4, 15, 16, 17] [14, 514] (.region [
     (.p 18 (.bin .lss) [.t 17, .t 16], none)]))
  (.seq (.cond (.t 18)
    .skip
    (.exit 0))
   (.seq (.block 1 (.seq (.kill [3, 4, 15, 16, 17] [14, 514] (.region [
         (.p 19 (.indexAddr none 38) [.t 15, .t 17], none),
         (.load 20 (some (38, true)) (some 9999) (.t 19), none),
         (.alloc 6 (.agg [.pv (.int .i64 0), .pv (.int .i64 0), .pv (.int .i64 0), .pv (.int .i64 0), .pv (.int .i64 0), .pv (.int .i64 0), .pv (.int .i64 0), .os 5 1 [], .pv (.int .i64 0), .pv (.int .i64 0), .pv (.int .i64 0), .pv (.bool false), .pv (.int .i64 0), .pv (.int .i64 0), .pv (.int .i64 0), .pv (.int .i64 0), .pv (.bool false), .pv (.int .i64 0), .pv (.int .i64 0), .pv (.int .i64 0), .pv (.int .i64 0), .pv (.bool false), .pv (.int .i64 0), .pv (.int .i64 0), .pv (.int .i64 0), .pv (.int .i64 0), .pv (.bool false), .pv (.int .i64 0), .pv (.int .i64 0), .pv (.int .i64 0), .pv (.int .i64 0), .pv (.bool false), .pv (.int .i64 0), .pv (.int .i64 0), .pv (.int .i64 0), .pv (.int .i64 0), .pv (.bool false), .pv (.int .i64 0)]), none),
         (.store (some (38, true)) (some 6) (.t 6) (.t 20), none)]))
      (.seq (.seq (.kill [3, 4, 6, 15, 16, 17] [6, 14, 514] (.region [
           (.p 21 (.fieldAddr 0) [.t 6], none),
           (.load 22 none (some 6) (.t 21), none)]))
        (.block 2 (.seq (.kill [3, 4, 6, 15, 16, 17, 22] [6, 14, 514] (.region [
             (.p 24 (.bin .eql) [.t 22, .c (.pv (.int .i64 0))], none),
             (.p 23 .id [.t 24], none)]))
          (.cond (.t 23)
           (.seq (.kill [3, 4, 6, 15, 16, 17] [6, 14, 514] (.region [
               (.p 25 .id [.t 3], none),
               (.p 26 (.fieldAddr 1) [.t 6], none),
               (.load 27 (some (7, false)) (some 6) (.t 26), none),
               (.call 28 12 [.t 25, .t 27] [14, 514] [] [], none),
               (.p 7 .id [.t 28], none)]))
            (.seq (.kill [3, 4, 6, 7, 15, 16, 17] [6, 14, 514] (.region [
                (.mv 30 4, none),
                (.p 31 (.fieldAddr 1) [.t 6], none),
                (.load 32 (some (7, false)) (some 6) (.t 31), none),
                (.call 33 17 [.t 30, .t 32] [] [] [], none),
                (.p 29 .id [.t 33], none),
                (.p 34 (.ext 0) [.t 29], none),
                (.p 35 (.ext 1) [.t 29], none),
                (.mv 8 34, none),
                (.p 9 .id [.t 35], none)]))
             (.seq (.seq (.kill [3, 7, 8, 9, 15, 16, 17] [14, 514] (.region [
                  (.p 36 .id [.t 7], none),
                  (.p 37 .id [.t 9], none),
                  (.p 38 (.bin .neq) [.t 36, .t 37], none)]))
               (.cond (.t 38)
                (.seq (.kill [] [] (.region [
                    (.p 2 .id [.c (.pv (.bool false))], none)]))
                 .ret)
                .skip))
              (.kill [3, 8, 15, 16, 17] [14, 514] (.region [
                 (.mv 39 8, none),
                 (.mv 4 39, none)])))))
           (.seq (.kill [3, 4, 6, 15, 16, 17, 22] [6, 14, 514] (.region [
               (.p 41 (.bin .eql) [.t 22, .c (.pv (.int .i64 1))], none),
               (.p 40 .id [.t 41], none)]))
            (.cond (.t 40)
             (.seq (.kill [3, 4, 6, 15, 16, 17] [6, 14, 514] (.region [
                 (.p 42 .id [.t 3], none),
                 (.p 43 (.fieldAddr 8) [.t 6], none),
                 (.load 44 (some (30, false)) (some 6) (.t 43), none),
                 (.call 45 13 [.t 42, .t 44] [14, 514] [] [], none),
                 (.p 46 .id [.t 4], none),
                 (.p 47 (.fieldAddr 8) [.t 6], none),
                 (.load 48 (some (30, false)) (some 6) (.t 47), none),
                 (.call 49 19 [.t 46, .t 48] [] [] [], none),
                 (.call 50 18 [.t 45, .t 49] [] [] [], none),
                 (.p 51 (.un .not) [.t 50], none)]))
              (.cond (.t 51)
               (.seq (.kill [] [] (.region [
                   (.p 2 .id [.c (.pv (.bool false))], none)]))
                .ret)
               .skip))
             (.seq (.kill [3, 4, 6, 15, 16, 17, 22] [6, 14, 514] (.region [
                 (.p 53 (.bin .eql) [.t 22, .c (.pv (.int .i64 2))], none),
                 (.p 52 .id [.t 53], none)]))
              (.cond (.t 52)
               (.seq (.kill [3, 4, 6, 15, 16, 17] [6, 14, 514] (.region [
                   (.p 54 .id [.t 3], none),
                   (.p 55 (.fieldAddr 8) [.t 6], none),
                   (.load 56 (some (30, false)) (some 6) (.t 55), none),
                   (.call 57 20 [.t 54, .t 56] [14, 514] [] [], none)]))
                (.kill [3, 4, 6, 15, 16, 17] [6, 14, 514] (.region [
                   (.mv 58 4, none),
                   (.p 59 (.fieldAddr 8) [.t 6], none),
                   (.load 60 (some (30, false)) (some 6) (.t 59), none),
                   (.call 61 21 [.t 58, .t 60] [] [] [], none),
                   (.p 4 .id [.t 61], none)])))
               .skip))))))))
       (.seq (.kill [3, 4, 15, 16, 17] [14, 514] (.region [
           (.p 62 .id [.t 3], none),
           (.call 63 15 [.t 62] [14, 514] [] [], none),
           (.p 64 .id [.t 4], none),
           (.call 65 18 [.t 63, .t 64] [] [] [], none),
           (.p 66 (.un .not) [.t 65], none),
           (.p 67 .id [.t 66], none),
           (.p 68 .id [.t 3], some (67, false)),
           (.call 69 22 [.t 68] [14, 514] [] [], some (67, false)),
           (.p 70 .id [.t 4], some (67, false)),
           (.p 71 (.len none) [.t 70], some (67, false)),
           (.p 72 (.bin .neq) [.t 69, .t 71], some (67, false)),
           (.p 73 .pick [.t 67, .c (.pv (.bool true)), .t 72], none)]))
        (.cond (.t 73)
         (.seq (.kill [] [] (.region [
             (.p 2 .id [.c (.pv (.bool false))], none)]))
          .ret)
         .skip)))))
    (.kill [3, 4, 15, 16, 17] [14, 514] (.region [
       (.p 74 (.bin .add) [.t 17, .c (.pv (.int .i64 1))], none),
       (.p 17 .id [.t 74], none)])))))
def irLaw16QueueActs : IR := (.seq (.region [
    (.p 2 .id [.c (.pv (.bool false))], none)])
 (.seq (.seq (.kill [0] [] (.region [
      (.call 10 9 [] [] [] [], none),
      (.p 11 (.un .not) [.t 10], none)]))
   (.cond (.t 11)
    (.seq (.kill [] [] (.region [
        (.p 2 .id [.c (.pv (.bool false))], none)]))
     .ret)
    .skip))
  (.seq (.seq (.kill [0] [] (.region [
       (.p 12 .id [.t 0], none),
       (.call 13 10 [.t 12] [] [] [], none)]))
    (.cond (.t 13)
     (.seq (.kill [] [] (.region [
         (.p 2 .id [.c (.pv (.bool true))], none)]))
      .ret)
     .skip))
   (.seq (.kill [0] [] (.region [
       (.call 14 11 [] [] [14, 514] [], none),
       (.p 3 .id [.t 14], none)]))
    (.seq (.kill [0, 3] [14, 514] (.region [
        (.p 4 .id [.c (.pv (.sl 7 []))], none)]))
     (.seq (.seq (.kill [0, 3, 4] [14, 514] (.region [
          (.mv 15 0, none),
          (.p 16 (.len none) [.t 15], none),
          (.p 17 .id [.c (.pv (.int .i64 0))], none)]))
       (.block 0 (.loop (.kill [3, 4, 15, 16, 17] [14, 514] irLaw16QueueActs_L1))))
      (.seq (.kill [] [] (.region [
          (.p 2 .id [.c (.pv (.bool true))], none)]))
       .ret)))))))
theorem okLaw16QueueActs : okFn Try.prog Try.f5 irLaw16QueueActs [.t 2] [] 1 = true := by kernel_rfl

-- consistorylaw16.QueueGone
-- consistorylaw16.QueueGone: args [22, 27]; lent []; rs [.t 4]; loops: L1 keeps [3, 5, 16, 17, 18] [3, 15, 515]; L2 keeps [3, 5, 8, 39, 40, 41] [3, 15, 515]
def irLaw16QueueGone_L1 : IR := (.seq (.kill [3, 5, 16, 17, 18] [3, 15, 515] (.region [
     (.p 19 (.bin .lss) [.t 18, .t 17], none)]))
  (.seq (.cond (.t 19)
    .skip
    (.exit 0))
   (.seq (.block 1 (.seq (.kill [3, 5, 16, 17, 18] [3, 15, 515] (.region [
         (.p 20 (.indexAddr none 38) [.t 16, .t 18], none),
         (.load 21 (some (38, true)) (some 9999) (.t 20), none),
         (.alloc 7 (.agg [.pv (.int .i64 0), .pv (.int .i64 0), .pv (.int .i64 0), .pv (.int .i64 0), .pv (.int .i64 0), .pv (.int .i64 0), .pv (.int .i64 0), .os 5 1 [], .pv (.int .i64 0), .pv (.int .i64 0), .pv (.int .i64 0), .pv (.bool false), .pv (.int .i64 0), .pv (.int .i64 0), .pv (.int .i64 0), .pv (.int .i64 0), .pv (.bool false), .pv (.int .i64 0), .pv (.int .i64 0), .pv (.int .i64 0), .pv (.int .i64 0), .pv (.bool false), .pv (.int .i64 0), .pv (.int .i64 0), .pv (.int .i64 0), .pv (.int .i64 0), .pv (.bool false), .pv (.int .i64 0), .pv (.int .i64 0), .pv (.int .i64 0), .pv (.int .i64 0), .pv (.bool false), .pv (.int .i64 0), .pv (.int .i64 0), .pv (.int .i64 0), .pv (.int .i64 0), .pv (.bool false), .pv (.int .i64 0)]), none),
         (.store (some (38, true)) (some 7) (.t 7) (.t 21), none)]))
      (.kill [3, 5, 7, 16, 17, 18] [3, 7, 15, 515] (.region [
         (.p 22 .id [.t 5], none),
         (.p 23 (.fieldAddr 1) [.t 7], none),
         (.load 24 (some (7, false)) (some 7) (.t 23), none),
         (.call 25 12 [.t 22, .t 24] [15, 515] [] [], none)]))))
    (.kill [3, 5, 16, 17, 18] [3, 15, 515] (.region [
       (.p 26 (.bin .add) [.t 18, .c (.pv (.int .i64 1))], none),
       (.p 18 .id [.t 26], none)])))))
def irLaw16QueueGone_L2 : IR := (.seq (.kill [3, 5, 8, 39, 40, 41] [3, 15, 515] (.region [
     (.p 42 (.bin .lss) [.t 41, .t 40], none)]))
  (.seq (.cond (.t 42)
    .skip
    (.exit 2))
   (.seq (.block 3 (.seq (.kill [3, 5, 8, 39, 40, 41] [3, 15, 515] (.region [
         (.p 43 (.indexAddr none 7) [.t 39, .t 41], none),
         (.load 44 (some (7, true)) (some 9999) (.t 43), none),
         (.alloc 10 (.agg [.pv (.int .i64 0), .pv (.int .i64 0), .pv (.int .i64 0), .pv (.int .i64 0), .pv (.int .i64 0), .pv (.int .i64 0), .os 5 1 []]), none),
         (.store (some (7, true)) (some 10) (.t 10) (.t 44), none)]))
      (.seq (.kill [3, 5, 8, 10, 39, 40, 41] [3, 10, 15, 515] (.region [
          (.p 45 (.fieldAddr 1) [.t 10], none),
          (.load 46 none (some 10) (.t 45), none),
          (.p 47 (.fieldAddr 0) [.t 10], none),
          (.load 48 none (some 10) (.t 47), none),
          (.p 49 (.indexAddr (some 6) 5) [.t 3, .t 48], none),
          (.p 50 (.fieldAddr 1) [.t 49], none),
          (.load 51 none (some 3) (.t 50), none),
          (.p 52 (.bin .leq) [.t 46, .t 51], none)]))
       (.cond (.t 52)
        (.seq (.kill [5, 10] [10, 15, 515] (.region [
            (.p 53 .id [.t 5], none),
            (.load 54 (some (7, true)) (some 10) (.t 10), none),
            (.call 55 12 [.t 53, .t 54] [15, 515] [] [], none),
            (.p 56 (.bin .eql) [.t 55, .c (.pv (.int .i64 0))], none),
            (.p 4 .id [.t 56], none)]))
         .ret)
        .skip))))
    (.kill [3, 5, 8, 39, 40, 41] [3, 15, 515] (.region [
       (.p 57 (.bin .add) [.t 41, .c (.pv (.int .i64 1))], none),
       (.p 41 .id [.t 57], none)])))))
def irLaw16QueueGone : IR := (.seq (.region [
    (.box 3 (.t 1), none),
    (.p 4 .id [.c (.pv (.bool false))], none)])
 (.seq (.seq (.kill [0, 3] [3] (.region [
      (.call 11 9 [] [] [] [], none),
      (.p 12 (.un .not) [.t 11], none)]))
   (.cond (.t 12)
    (.seq (.kill [] [] (.region [
        (.p 4 .id [.c (.pv (.bool false))], none)]))
     .ret)
    .skip))
  (.seq (.seq (.kill [0, 3] [3] (.region [
       (.p 13 .id [.t 0], none),
       (.call 14 10 [.t 13] [] [] [], none)]))
    (.cond (.t 14)
     (.seq (.kill [] [] (.region [
         (.p 4 .id [.c (.pv (.bool true))], none)]))
      .ret)
     .skip))
   (.seq (.kill [0, 3] [3] (.region [
       (.call 15 11 [] [] [15, 515] [], none),
       (.p 5 .id [.t 15], none)]))
    (.seq (.seq (.kill [0, 3, 5] [3, 15, 515] (.region [
         (.mv 16 0, none),
         (.p 17 (.len none) [.t 16], none),
         (.p 18 .id [.c (.pv (.int .i64 0))], none)]))
      (.block 0 (.loop (.kill [3, 5, 16, 17, 18] [3, 15, 515] irLaw16QueueGone_L1))))
     (.seq (.kill [3, 5] [3, 15, 515] (.region [
         (.p 27 .id [.t 5], none),
         (.call 28 15 [.t 27] [15, 515] [] [], none),
         (.mv 8 28, none)]))
      (.seq (.kill [3, 5, 8] [3, 15, 515] (.region [
          (.p 29 .id [.t 5], none),
          (.load 30 (some (30, true)) (some 3) (.t 3), none),
          (.call 31 20 [.t 29, .t 30] [15, 515] [] [], none)]))
       (.seq (.seq (.kill [3, 5, 8] [3, 15, 515] (.region [
            (.p 32 .id [.t 5], none),
            (.call 33 15 [.t 32] [15, 515] [] [], none),
            (.p 34 .id [.t 8], none),
            (.load 35 (some (30, true)) (some 3) (.t 3), none),
            (.call 36 21 [.t 34, .t 35] [] [] [], none),
            (.call 37 18 [.t 33, .t 36] [] [] [], none),
            (.p 38 (.un .not) [.t 37], none)]))
         (.cond (.t 38)
          (.seq (.kill [] [] (.region [
              (.p 4 .id [.c (.pv (.bool false))], none)]))
           .ret)
          .skip))
        (.seq (.seq (.kill [3, 5, 8] [3, 15, 515] (.region [
             (.p 39 .id [.t 8], none),
             (.p 40 (.len none) [.t 39], none),
             (.p 41 .id [.c (.pv (.int .i64 0))], none)]))
          (.block 2 (.loop (.kill [3, 5, 8, 39, 40, 41] [3, 15, 515] irLaw16QueueGone_L2))))
         (.seq (.kill [5, 8] [15, 515] (.region [
             (.p 58 .id [.t 5], none),
             (.call 59 22 [.t 58] [15, 515] [] [], none),
             (.mv 60 8, none),
             (.p 61 (.len none) [.t 60], none),
             (.p 62 (.bin .eql) [.t 59, .t 61], none),
             (.p 4 .id [.t 62], none)]))
          .ret))))))))))
theorem okLaw16QueueGone : okFn Try.prog Try.f6 irLaw16QueueGone [.t 4] [] 2 = true := by kernel_rfl

-- consistorylaw16.QueueMost
-- consistorylaw16.QueueMost: args [22]; lent []; rs [.t 2]; loops: L3 keeps [3, 7, 8, 15, 16, 17, 48, 49, 52, 53] [14, 514]; L2 keeps [3, 7, 15, 16, 17, 48, 49] [14, 514]; L1 keeps [3, 15, 16, 17] [14, 514]
def irLaw16QueueMost_L3 : IR := (.seq (.kill [3, 7, 8, 15, 16, 17, 48, 49, 52, 53] [14, 514] (.region [
     (.p 54 (.bin .lss) [.t 53, .t 52], none)]))
  (.seq (.cond (.t 54)
    .skip
    (.exit 4))
   (.seq (.block 5 (.seq (.kill [3, 7, 8, 15, 16, 17, 48, 49, 52, 53] [14, 514] (.region [
         (.p 55 .id [.t 53], none),
         (.p 9 .id [.t 55], none)]))
      (.seq (.kill [3, 7, 8, 9, 15, 16, 17, 48, 49, 52, 53] [14, 514] (.region [
          (.p 56 .id [.t 7], none),
          (.p 57 .id [.t 8], none),
          (.p 58 (.indexAddr none 7) [.t 56, .t 57], none),
          (.p 59 (.fieldAddr 0) [.t 58], none),
          (.load 60 none (some 9999) (.t 59), none),
          (.p 61 .id [.t 7], none),
          (.p 62 .id [.t 9], none),
          (.p 63 (.indexAddr none 7) [.t 61, .t 62], none),
          (.p 64 (.fieldAddr 0) [.t 63], none),
          (.load 65 none (some 9999) (.t 64), none),
          (.p 66 (.bin .eql) [.t 60, .t 65], none),
          (.p 67 .id [.t 66], none),
          (.p 68 .id [.t 7], some (67, true)),
          (.p 69 .id [.t 8], some (67, true)),
          (.p 70 (.indexAddr none 7) [.t 68, .t 69], some (67, true)),
          (.p 71 (.fieldAddr 1) [.t 70], some (67, true)),
          (.load 72 none (some 9999) (.t 71), some (67, true)),
          (.p 73 .id [.t 7], some (67, true)),
          (.p 74 .id [.t 9], some (67, true)),
          (.p 75 (.indexAddr none 7) [.t 73, .t 74], some (67, true)),
          (.p 76 (.fieldAddr 1) [.t 75], some (67, true)),
          (.load 77 none (some 9999) (.t 76), some (67, true)),
          (.p 78 (.bin .eql) [.t 72, .t 77], some (67, true)),
          (.p 79 .pick [.t 67, .t 78, .c (.pv (.bool false))], none)]))
       (.cond (.t 79)
        (.seq (.kill [] [] (.region [
            (.p 2 .id [.c (.pv (.bool false))], none)]))
         .ret)
        .skip))))
    (.kill [3, 7, 8, 15, 16, 17, 48, 49, 52, 53] [14, 514] (.region [
       (.p 80 (.bin .add) [.t 53, .c (.pv (.int .i64 1))], none),
       (.p 53 .id [.t 80], none)])))))
def irLaw16QueueMost_L2 : IR := (.seq (.kill [3, 7, 15, 16, 17, 48, 49] [14, 514] (.region [
     (.p 50 (.bin .lss) [.t 49, .t 48], none)]))
  (.seq (.cond (.t 50)
    .skip
    (.exit 2))
   (.seq (.block 3 (.seq (.kill [3, 7, 15, 16, 17, 48, 49] [14, 514] (.region [
         (.p 51 .id [.t 49], none),
         (.p 8 .id [.t 51], none)]))
      (.seq (.kill [3, 7, 8, 15, 16, 17, 48, 49] [14, 514] (.region [
          (.p 52 .id [.t 8], none),
          (.p 53 .id [.c (.pv (.int .i64 0))], none)]))
       (.block 4 (.loop (.kill [3, 7, 8, 15, 16, 17, 48, 49, 52, 53] [14, 514] irLaw16QueueMost_L3))))))
    (.kill [3, 7, 15, 16, 17, 48, 49] [14, 514] (.region [
       (.p 81 (.bin .add) [.t 49, .c (.pv (.int .i64 1))], none),
       (.p 49 .id [.t 81], none)])))))
def irLaw16QueueMost_L1 : IR := (.seq (.kill [3, 15, 16, 17] [14, 514] (.region [
     (.p 18 (.bin .lss) [.t 17, .t 16], none)]))
  (.seq (.cond (.t 18)
    .skip
    (.exit 0))
   (.seq (.block 1 (.seq (.kill [3, 15, 16, 17] [14, 514] (.region [
         (.p 19 (.indexAddr none 38) [.t 15, .t 17], none),
         (.load 20 (some (38, true)) (some 9999) (.t 19), none),
         (.alloc 5 (.agg [.pv (.int .i64 0), .pv (.int .i64 0), .pv (.int .i64 0), .pv (.int .i64 0), .pv (.int .i64 0), .pv (.int .i64 0), .pv (.int .i64 0), .os 5 1 [], .pv (.int .i64 0), .pv (.int .i64 0), .pv (.int .i64 0), .pv (.bool false), .pv (.int .i64 0), .pv (.int .i64 0), .pv (.int .i64 0), .pv (.int .i64 0), .pv (.bool false), .pv (.int .i64 0), .pv (.int .i64 0), .pv (.int .i64 0), .pv (.int .i64 0), .pv (.bool false), .pv (.int .i64 0), .pv (.int .i64 0), .pv (.int .i64 0), .pv (.int .i64 0), .pv (.bool false), .pv (.int .i64 0), .pv (.int .i64 0), .pv (.int .i64 0), .pv (.int .i64 0), .pv (.bool false), .pv (.int .i64 0), .pv (.int .i64 0), .pv (.int .i64 0), .pv (.int .i64 0), .pv (.bool false), .pv (.int .i64 0)]), none),
         (.store (some (38, true)) (some 5) (.t 5) (.t 20), none)]))
      (.seq (.kill [3, 5, 15, 16, 17] [5, 14, 514] (.region [
          (.p 21 .id [.t 3], none),
          (.call 22 15 [.t 21] [14, 514] [] [], none),
          (.mv 6 22, none)]))
       (.seq (.seq (.kill [3, 5, 6, 15, 16, 17] [5, 14, 514] (.region [
            (.p 23 (.fieldAddr 0) [.t 5], none),
            (.load 24 none (some 5) (.t 23), none),
            (.p 25 (.bin .eql) [.t 24, .c (.pv (.int .i64 2))], none)]))
         (.cond (.t 25)
          (.kill [3, 5, 15, 16, 17] [5, 14, 514] (.region [
             (.p 26 .id [.t 3], none),
             (.p 27 (.fieldAddr 8) [.t 5], none),
             (.load 28 (some (30, false)) (some 5) (.t 27), none),
             (.call 29 20 [.t 26, .t 28] [14, 514] [] [], none)]))
          (.seq (.kill [3, 5, 6, 15, 16, 17] [5, 14, 514] (.region [
              (.p 30 .id [.t 3], none),
              (.p 31 (.fieldAddr 1) [.t 5], none),
              (.load 32 (some (7, false)) (some 5) (.t 31), none),
              (.call 33 12 [.t 30, .t 32] [14, 514] [] [], none),
              (.p 34 (.bin .neq) [.t 33, .c (.pv (.int .i64 0))], none),
              (.p 35 .id [.t 34], none),
              (.p 36 .id [.t 3], some (35, true)),
              (.call 37 15 [.t 36] [14, 514] [] [], some (35, true)),
              (.mv 38 6, some (35, true)),
              (.call 39 18 [.t 37, .t 38] [] [] [], some (35, true)),
              (.p 40 (.un .not) [.t 39], some (35, true)),
              (.p 41 .pick [.t 35, .t 40, .c (.pv (.bool false))], none)]))
           (.cond (.t 41)
            (.seq (.kill [] [] (.region [
                (.p 2 .id [.c (.pv (.bool false))], none)]))
             .ret)
            .skip))))
        (.seq (.kill [3, 15, 16, 17] [14, 514] (.region [
            (.p 42 .id [.t 3], none),
            (.call 43 15 [.t 42] [14, 514] [] [], none),
            (.mv 7 43, none)]))
         (.seq (.seq (.kill [3, 7, 15, 16, 17] [14, 514] (.region [
              (.p 44 .id [.t 7], none),
              (.p 45 (.len none) [.t 44], none),
              (.p 46 (.bin .gtr) [.t 45, .c (.pv (.int .i64 12))], none)]))
           (.cond (.t 46)
            (.seq (.kill [] [] (.region [
                (.p 2 .id [.c (.pv (.bool false))], none)]))
             .ret)
            .skip))
          (.seq (.kill [3, 7, 15, 16, 17] [14, 514] (.region [
              (.p 47 .id [.t 7], none),
              (.p 48 (.len none) [.t 47], none),
              (.p 49 .id [.c (.pv (.int .i64 0))], none)]))
           (.block 2 (.loop (.kill [3, 7, 15, 16, 17, 48, 49] [14, 514] irLaw16QueueMost_L2))))))))))
    (.kill [3, 15, 16, 17] [14, 514] (.region [
       (.p 82 (.bin .add) [.t 17, .c (.pv (.int .i64 1))], none),
       (.p 17 .id [.t 82], none)])))))
def irLaw16QueueMost : IR := (.seq (.region [
    (.p 2 .id [.c (.pv (.bool false))], none)])
 (.seq (.seq (.kill [0] [] (.region [
      (.call 10 9 [] [] [] [], none),
      (.p 11 (.un .not) [.t 10], none)]))
   (.cond (.t 11)
    (.seq (.kill [] [] (.region [
        (.p 2 .id [.c (.pv (.bool false))], none)]))
     .ret)
    .skip))
  (.seq (.seq (.kill [0] [] (.region [
       (.p 12 .id [.t 0], none),
       (.call 13 10 [.t 12] [] [] [], none)]))
    (.cond (.t 13)
     (.seq (.kill [] [] (.region [
         (.p 2 .id [.c (.pv (.bool true))], none)]))
      .ret)
     .skip))
   (.seq (.kill [0] [] (.region [
       (.call 14 11 [] [] [14, 514] [], none),
       (.p 3 .id [.t 14], none)]))
    (.seq (.seq (.kill [0, 3] [14, 514] (.region [
         (.mv 15 0, none),
         (.p 16 (.len none) [.t 15], none),
         (.p 17 .id [.c (.pv (.int .i64 0))], none)]))
      (.block 0 (.loop (.kill [3, 15, 16, 17] [14, 514] irLaw16QueueMost_L1))))
     (.seq (.kill [] [] (.region [
         (.p 2 .id [.c (.pv (.bool true))], none)]))
      .ret))))))
theorem okLaw16QueueMost : okFn Try.prog Try.f8 irLaw16QueueMost [.t 2] [] 1 = true := by kernel_rfl

end Go.Proofs.Ytcceiicpploclaa
