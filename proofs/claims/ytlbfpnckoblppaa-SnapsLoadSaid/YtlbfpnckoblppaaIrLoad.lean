/- The abstract code of functions, printed by gen_ir.py out of the program's form in Lean; each is checked against it. -/
import Derived.Test.YtlbfpnckoblppaaProg
import Derived.Test.YtlbfpnckoblppaaIrDisk2
set_option linter.unusedVariables false
set_option linter.unusedSimpArgs false
set_option maxRecDepth 100000
namespace Go.Proofs.Ytlbfpnckoblppaa
open Go.Abs
-- consistoryref12.Read
-- consistoryref12.Read: args [22]; lent []; rs [.t 2, .t 3]; loops: 
def irRef12Read : IR := (.seq (.region [
    (.p 2 .id [.c (.os 5 1 [])], none),
    (.p 3 .id [.c (.pv (.int .i64 0))], none)])
 (.seq (.kill [0] [] (.region [
     (.p 5 .id [.t 0], none),
     (.call 6 33 [.t 5, .c (.pv (.int .i64 0)), .c (.pv (.int .i64 65536))] [] [] [], none),
     (.alloc 4 (.agg [.pv (.int .u64 0), .os 5 1 [], .pv (.int .i64 0), .pv (.int .i64 0)]), none),
     (.store (some (4, true)) (some 4) (.t 4) (.t 6), none)]))
  (.seq (.seq (.kill [0, 4] [4] (.region [
       (.p 7 (.fieldAddr 3) [.t 4], none),
       (.load 8 none (some 4) (.t 7), none),
       (.p 9 (.bin .neq) [.t 8, .c (.pv (.int .i64 0))], none),
       (.p 10 .id [.t 9], none),
       (.p 11 (.fieldAddr 1) [.t 4], some (10, false)),
       (.load 12 none (some 4) (.t 11), some (10, false)),
       (.call 13 16 [.t 12] [] [] [], some (10, false)),
       (.mv 14 0, some (10, false)),
       (.call 15 14 [.t 13, .t 14] [] [] [], some (10, false)),
       (.p 16 (.un .not) [.t 15], some (10, false)),
       (.p 17 .pick [.t 10, .c (.pv (.bool true)), .t 16], none)]))
    (.cond (.t 17)
     (.seq (.kill [] [] (.region [
         (.p 2 .id [.c (.os 5 1 [])], none),
         (.p 3 .id [.c (.pv (.int .i64 2))], none)]))
      .ret)
     .skip))
   (.seq (.kill [4] [4] (.region [
       (.p 18 (.fieldAddr 1) [.t 4], none),
       (.load 19 none (some 4) (.t 18), none),
       (.mv 2 19, none),
       (.p 3 .id [.c (.pv (.int .i64 0))], none)]))
    .ret))))
theorem okRef12Read : okFn Try.prog Try.f13 irRef12Read [.t 2, .t 3] [] 1 = true := by kernel_rfl

-- consistorylaw12.SnapsLoad
-- consistorylaw12.SnapsLoad: args [9, 22, 4]; lent []; rs [.t 6]; loops: 
def irLaw12SnapsLoad : IR := (.seq (.region [
    (.p 6 .id [.c (.pv (.bool false))], none)])
 (.seq (.seq (.kill [0, 1, 2] [] (.region [
      (.call 12 8 [] [] [] [], none),
      (.p 13 (.un .not) [.t 12], none)]))
   (.cond (.t 13)
    (.seq (.kill [] [] (.region [
        (.p 6 .id [.c (.pv (.bool false))], none)]))
     .ret)
    .skip))
  (.seq (.seq (.kill [0, 1, 2] [] (.region [
       (.p 14 .id [.t 1], none),
       (.p 15 (.len none) [.t 14], none),
       (.p 16 (.bin .gtr) [.t 15, .c (.pv (.int .i64 3000))], none),
       (.p 17 .id [.t 16], none),
       (.p 18 .id [.t 0], some (17, false)),
       (.p 19 .slen [.t 18], some (17, false)),
       (.p 20 (.bin .gtr) [.t 19, .c (.pv (.int .i64 30))], some (17, false)),
       (.p 21 .pick [.t 17, .c (.pv (.bool true)), .t 20], none)]))
    (.cond (.t 21)
     (.seq (.kill [] [] (.region [
         (.p 6 .id [.c (.pv (.bool true))], none)]))
      .ret)
     .skip))
   (.seq (.kill [0, 1, 2] [] (.region [
       (.call 22 9 [.c (.pv (.int .i64 65536))] [] [22, 522, 622] [], none),
       (.p 7 .id [.t 22], none)]))
    (.seq (.seq (.kill [0, 1, 2, 7] [22, 522, 622] (.region [
         (.p 23 .id [.t 2], none)]))
      (.cond (.t 23)
       (.kill [0, 1, 2, 7] [22, 522, 622] (.region [
          (.p 24 .id [.t 7], none),
          (.p 25 .id [.t 0], none),
          (.p 26 .id [.t 1], none),
          (.call 27 10 [.t 24, .t 25, .t 26] [22, 522, 622] [] [], none)]))
       .skip))
     (.seq (.kill [0, 1, 2, 7] [22, 522, 622] (.region [
         (.p 29 .id [.t 7], none),
         (.p 30 .id [.t 0], none),
         (.call 31 11 [.t 29, .t 30] [22, 522, 622] [] [], none),
         (.p 28 .id [.t 31], none),
         (.p 32 (.ext 0) [.t 28], none),
         (.p 33 (.ext 1) [.t 28], none),
         (.mv 8 32, none),
         (.p 9 .id [.t 33], none)]))
      (.seq (.seq (.kill [0, 1, 2, 8, 9] [] (.region [
           (.p 34 .id [.t 0], none),
           (.call 35 12 [.t 34] [] [] [], none),
           (.p 36 (.un .not) [.t 35], none)]))
        (.cond (.t 36)
         (.seq (.kill [8, 9] [] (.region [
             (.mv 37 8, none),
             (.p 38 (.len none) [.t 37], none),
             (.p 39 (.bin .eql) [.t 38, .c (.pv (.int .i64 0))], none),
             (.p 40 .id [.t 39], none),
             (.p 41 .id [.t 9], some (40, true)),
             (.p 42 (.bin .eql) [.t 41, .c (.pv (.int .i64 15))], some (40, true)),
             (.p 43 .pick [.t 40, .t 42, .c (.pv (.bool false))], none),
             (.p 6 .id [.t 43], none)]))
          .ret)
         .skip))
       (.seq (.seq (.kill [1, 2, 8, 9] [] (.region [
            (.p 44 .id [.t 2], none),
            (.p 45 (.un .not) [.t 44], none)]))
         (.cond (.t 45)
          (.seq (.kill [8, 9] [] (.region [
              (.mv 46 8, none),
              (.p 47 (.len none) [.t 46], none),
              (.p 48 (.bin .eql) [.t 47, .c (.pv (.int .i64 0))], none),
              (.p 49 .id [.t 48], none),
              (.p 50 .id [.t 9], some (49, true)),
              (.p 51 (.bin .eql) [.t 50, .c (.pv (.int .i64 13))], some (49, true)),
              (.p 52 .pick [.t 49, .t 51, .c (.pv (.bool false))], none),
              (.p 6 .id [.t 52], none)]))
           .ret)
          .skip))
        (.seq (.kill [1, 8, 9] [] (.region [
            (.mv 54 1, none),
            (.call 55 13 [.t 54] [] [] [], none),
            (.p 53 .id [.t 55], none),
            (.p 56 (.ext 0) [.t 53], none),
            (.p 57 (.ext 1) [.t 53], none),
            (.mv 10 56, none),
            (.p 11 .id [.t 57], none)]))
         (.seq (.kill [8, 9, 10, 11] [] (.region [
             (.mv 58 8, none),
             (.mv 59 10, none),
             (.call 60 14 [.t 58, .t 59] [] [] [], none),
             (.p 61 .id [.t 60], none),
             (.p 62 .id [.t 9], some (61, true)),
             (.p 63 .id [.t 11], some (61, true)),
             (.p 64 (.bin .eql) [.t 62, .t 63], some (61, true)),
             (.p 65 .pick [.t 61, .t 64, .c (.pv (.bool false))], none),
             (.p 6 .id [.t 65], none)]))
          .ret))))))))))
theorem okLaw12SnapsLoad : okFn Try.prog Try.f3 irLaw12SnapsLoad [.t 6] [] 3 = true := by kernel_rfl

end Go.Proofs.Ytlbfpnckoblppaa
