/- The abstract code of functions, printed by gen_ir.py out of the program's form in Lean; each is checked against it. -/
import Derived.Test.YtlbfpnckoblppaaProg
import Derived.Test.YtlbfpnckoblppaaIrDisk2
set_option linter.unusedVariables false
set_option linter.unusedSimpArgs false
set_option maxRecDepth 100000
namespace Go.Proofs.Ytlbfpnckoblppaa
open Go.Abs
-- consistorylaw12.SnapsSave
-- consistorylaw12.SnapsSave: args [9, 22, 37]; lent []; rs [.t 6]; loops: 
def irLaw12SnapsSave : IR := (.seq (.region [
    (.p 6 .id [.c (.pv (.bool false))], none)])
 (.seq (.seq (.kill [0, 1, 2] [] (.region [
      (.call 13 8 [] [] [] [], none),
      (.p 14 (.un .not) [.t 13], none)]))
   (.cond (.t 14)
    (.seq (.kill [] [] (.region [
        (.p 6 .id [.c (.pv (.bool false))], none)]))
     .ret)
    .skip))
  (.seq (.seq (.kill [0, 1, 2] [] (.region [
       (.p 15 .id [.t 1], none),
       (.p 16 (.len none) [.t 15], none),
       (.p 17 (.bin .gtr) [.t 16, .c (.pv (.int .i64 3000))], none),
       (.p 18 .id [.t 17], none),
       (.p 19 .id [.t 0], some (18, false)),
       (.p 20 .slen [.t 19], some (18, false)),
       (.p 21 (.bin .gtr) [.t 20, .c (.pv (.int .i64 30))], some (18, false)),
       (.p 22 .pick [.t 18, .c (.pv (.bool true)), .t 21], none)]))
    (.cond (.t 22)
     (.seq (.kill [] [] (.region [
         (.p 6 .id [.c (.pv (.bool true))], none)]))
      .ret)
     .skip))
   (.seq (.kill [0, 1, 2] [] (.region [
       (.p 23 .id [.t 2], none),
       (.p 24 (.conv .i64) [.t 23], none),
       (.call 25 9 [.t 24] [] [25, 525, 625] [], none),
       (.p 7 .id [.t 25], none)]))
    (.alt (.seq (.kill [0, 1, 2, 7] [25, 525, 625] (.region [
        (.p 26 .id [.t 7], none),
        (.p 27 .id [.t 0], none),
        (.bslice 28 5 1 0 [.int .u8 0] [], none),
        (.p 29 .id [.t 1], none),
        (.app 30 5 1 28 none (.t 29), none),
        (.call 31 15 [.t 26, .t 27, .t 30] [25, 525, 625] [31, 431] [], none),
        (.p 8 .id [.t 31], none)]))
     (.seq (.kill [0, 1, 2, 7, 8] [25, 31, 431] (.region [
         (.p 33 .id [.t 7], none),
         (.p 34 .id [.t 0], none),
         (.call 35 11 [.t 33, .t 34] [25, 31, 431] [] [], none),
         (.p 32 .id [.t 35], none),
         (.p 36 (.ext 0) [.t 32], none),
         (.p 37 (.ext 1) [.t 32], none),
         (.mv 9 36, none),
         (.p 10 .id [.t 37], none)]))
      (.seq (.seq (.kill [0, 1, 2, 7, 8, 9, 10] [25, 31, 431] (.region [
           (.p 38 .id [.t 0], none),
           (.call 39 12 [.t 38] [] [] [], none),
           (.p 40 (.un .not) [.t 39], none)]))
        (.cond (.t 40)
         (.seq (.kill [8, 10] [] (.region [
             (.p 41 .id [.t 8], none),
             (.p 42 (.bin .eql) [.t 41, .c (.pv (.int .i64 15))], none),
             (.p 43 .id [.t 42], none),
             (.p 44 .id [.t 10], some (43, true)),
             (.p 45 (.bin .eql) [.t 44, .c (.pv (.int .i64 15))], some (43, true)),
             (.p 46 .pick [.t 43, .t 45, .c (.pv (.bool false))], none),
             (.p 6 .id [.t 46], none)]))
          .ret)
         .skip))
       (.seq (.seq (.kill [0, 1, 2, 7, 8, 9, 10] [25, 31, 431] (.region [
            (.p 47 .id [.t 1], none),
            (.call 48 16 [.t 47] [] [] [], none),
            (.p 49 (.len none) [.t 48], none),
            (.p 50 .id [.t 2], none),
            (.p 51 (.conv .i64) [.t 50], none),
            (.p 52 (.bin .gtr) [.t 49, .t 51], none)]))
         (.cond (.t 52)
          (.seq (.kill [8, 10] [] (.region [
              (.p 53 .id [.t 8], none),
              (.p 54 (.bin .eql) [.t 53, .c (.pv (.int .i64 4))], none),
              (.p 55 .id [.t 54], none),
              (.p 56 .id [.t 10], some (55, true)),
              (.p 57 (.bin .eql) [.t 56, .c (.pv (.int .i64 13))], some (55, true)),
              (.p 58 .pick [.t 55, .t 57, .c (.pv (.bool false))], none),
              (.p 6 .id [.t 58], none)]))
           .ret)
          .skip))
        (.seq (.kill [0, 1, 7, 8, 9, 10] [25, 31, 431] (.region [
            (.p 60 .id [.t 7], none),
            (.p 61 .id [.t 0], none),
            (.call 62 17 [.t 60, .t 61] [25, 31, 431] [] [], none),
            (.p 59 .id [.t 62], none),
            (.p 63 (.ext 0) [.t 59], none),
            (.p 64 (.ext 1) [.t 59], none),
            (.mv 11 63, none),
            (.p 12 .id [.t 64], none)]))
         (.seq (.kill [1, 7, 8, 9, 10, 11, 12] [25, 31, 431] (.region [
             (.p 65 .id [.t 8], none),
             (.p 66 (.bin .eql) [.t 65, .c (.pv (.int .i64 0))], none),
             (.p 67 .id [.t 66], none),
             (.p 68 .id [.t 10], some (67, true)),
             (.p 69 (.bin .eql) [.t 68, .c (.pv (.int .i64 0))], some (67, true)),
             (.p 70 .pick [.t 67, .t 69, .c (.pv (.bool false))], none),
             (.p 71 .id [.t 70], none),
             (.p 72 .id [.t 12], some (71, true)),
             (.p 73 (.bin .eql) [.t 72, .c (.pv (.int .i64 0))], some (71, true)),
             (.p 74 .pick [.t 71, .t 73, .c (.pv (.bool false))], none),
             (.p 75 .id [.t 74], none),
             (.mv 76 9, some (75, true)),
             (.p 77 .id [.t 1], some (75, true)),
             (.call 78 14 [.t 76, .t 77] [] [] [], some (75, true)),
             (.p 79 .pick [.t 75, .t 78, .c (.pv (.bool false))], none),
             (.p 80 .id [.t 79], none),
             (.mv 81 11, some (80, true)),
             (.p 82 .id [.t 1], some (80, true)),
             (.call 83 16 [.t 82] [] [] [], some (80, true)),
             (.call 84 14 [.t 81, .t 83] [] [] [], some (80, true)),
             (.p 85 .pick [.t 80, .t 84, .c (.pv (.bool false))], none),
             (.p 86 .id [.t 85], none),
             (.p 87 .id [.t 7], some (86, true)),
             (.call 88 18 [.t 87] [25, 31, 431] [] [], some (86, true)),
             (.p 89 (.bin .eql) [.t 88, .c (.pv (.int .i64 0))], some (86, true)),
             (.p 90 .pick [.t 86, .t 89, .c (.pv (.bool false))], none),
             (.p 6 .id [.t 90], none)]))
          .ret))))))
 (.seq (.kill [0, 1, 2, 7] [25, 525, 625] (.region [
        (.p 26 .id [.t 7], none),
        (.p 27 .id [.t 0], none),
        (.bslice 28 5 1 0 [.int .u8 0] [], none),
        (.p 29 .id [.t 1], none),
        (.app 30 5 1 28 none (.t 29), none),
        (.call 31 15 [.t 26, .t 27, .t 30] [25, 525, 625] [] [], none),
        (.p 8 .id [.t 31], none)]))
     (.seq (.kill [0, 1, 2, 7, 8] [25, 525, 625] (.region [
         (.p 33 .id [.t 7], none),
         (.p 34 .id [.t 0], none),
         (.call 35 11 [.t 33, .t 34] [25, 525, 625] [] [], none),
         (.p 32 .id [.t 35], none),
         (.p 36 (.ext 0) [.t 32], none),
         (.p 37 (.ext 1) [.t 32], none),
         (.mv 9 36, none),
         (.p 10 .id [.t 37], none)]))
      (.seq (.seq (.kill [0, 1, 2, 7, 8, 9, 10] [25, 525, 625] (.region [
           (.p 38 .id [.t 0], none),
           (.call 39 12 [.t 38] [] [] [], none),
           (.p 40 (.un .not) [.t 39], none)]))
        (.cond (.t 40)
         (.seq (.kill [8, 10] [] (.region [
             (.p 41 .id [.t 8], none),
             (.p 42 (.bin .eql) [.t 41, .c (.pv (.int .i64 15))], none),
             (.p 43 .id [.t 42], none),
             (.p 44 .id [.t 10], some (43, true)),
             (.p 45 (.bin .eql) [.t 44, .c (.pv (.int .i64 15))], some (43, true)),
             (.p 46 .pick [.t 43, .t 45, .c (.pv (.bool false))], none),
             (.p 6 .id [.t 46], none)]))
          .ret)
         .skip))
       (.seq (.seq (.kill [0, 1, 2, 7, 8, 9, 10] [25, 525, 625] (.region [
            (.p 47 .id [.t 1], none),
            (.call 48 16 [.t 47] [] [] [], none),
            (.p 49 (.len none) [.t 48], none),
            (.p 50 .id [.t 2], none),
            (.p 51 (.conv .i64) [.t 50], none),
            (.p 52 (.bin .gtr) [.t 49, .t 51], none)]))
         (.cond (.t 52)
          (.seq (.kill [8, 10] [] (.region [
              (.p 53 .id [.t 8], none),
              (.p 54 (.bin .eql) [.t 53, .c (.pv (.int .i64 4))], none),
              (.p 55 .id [.t 54], none),
              (.p 56 .id [.t 10], some (55, true)),
              (.p 57 (.bin .eql) [.t 56, .c (.pv (.int .i64 13))], some (55, true)),
              (.p 58 .pick [.t 55, .t 57, .c (.pv (.bool false))], none),
              (.p 6 .id [.t 58], none)]))
           .ret)
          .skip))
        (.seq (.kill [0, 1, 7, 8, 9, 10] [25, 525, 625] (.region [
            (.p 60 .id [.t 7], none),
            (.p 61 .id [.t 0], none),
            (.call 62 17 [.t 60, .t 61] [25, 525, 625] [] [], none),
            (.p 59 .id [.t 62], none),
            (.p 63 (.ext 0) [.t 59], none),
            (.p 64 (.ext 1) [.t 59], none),
            (.mv 11 63, none),
            (.p 12 .id [.t 64], none)]))
         (.seq (.kill [1, 7, 8, 9, 10, 11, 12] [25, 525, 625] (.region [
             (.p 65 .id [.t 8], none),
             (.p 66 (.bin .eql) [.t 65, .c (.pv (.int .i64 0))], none),
             (.p 67 .id [.t 66], none),
             (.p 68 .id [.t 10], some (67, true)),
             (.p 69 (.bin .eql) [.t 68, .c (.pv (.int .i64 0))], some (67, true)),
             (.p 70 .pick [.t 67, .t 69, .c (.pv (.bool false))], none),
             (.p 71 .id [.t 70], none),
             (.p 72 .id [.t 12], some (71, true)),
             (.p 73 (.bin .eql) [.t 72, .c (.pv (.int .i64 0))], some (71, true)),
             (.p 74 .pick [.t 71, .t 73, .c (.pv (.bool false))], none),
             (.p 75 .id [.t 74], none),
             (.mv 76 9, some (75, true)),
             (.p 77 .id [.t 1], some (75, true)),
             (.call 78 14 [.t 76, .t 77] [] [] [], some (75, true)),
             (.p 79 .pick [.t 75, .t 78, .c (.pv (.bool false))], none),
             (.p 80 .id [.t 79], none),
             (.mv 81 11, some (80, true)),
             (.p 82 .id [.t 1], some (80, true)),
             (.call 83 16 [.t 82] [] [] [], some (80, true)),
             (.call 84 14 [.t 81, .t 83] [] [] [], some (80, true)),
             (.p 85 .pick [.t 80, .t 84, .c (.pv (.bool false))], none),
             (.p 86 .id [.t 85], none),
             (.p 87 .id [.t 7], some (86, true)),
             (.call 88 18 [.t 87] [25, 525, 625] [] [], some (86, true)),
             (.p 89 (.bin .eql) [.t 88, .c (.pv (.int .i64 0))], some (86, true)),
             (.p 90 .pick [.t 86, .t 89, .c (.pv (.bool false))], none),
             (.p 6 .id [.t 90], none)]))
          .ret)))))))))))
theorem okLaw12SnapsSave : okFn Try.prog Try.f5 irLaw12SnapsSave [.t 6] [] 3 = true := by kernel_rfl

end Go.Proofs.Ytlbfpnckoblppaa
