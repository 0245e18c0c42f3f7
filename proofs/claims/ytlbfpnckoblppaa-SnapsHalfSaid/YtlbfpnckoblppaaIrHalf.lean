/- The abstract code of functions, printed by gen_ir.py out of the program's form in Lean; each is checked against it. -/
import Derived.Test.YtlbfpnckoblppaaProg
import Derived.Test.YtlbfpnckoblppaaIrDisk2
set_option linter.unusedVariables false
set_option linter.unusedSimpArgs false
set_option maxRecDepth 100000
namespace Go.Proofs.Ytlbfpnckoblppaa
open Go.Abs
-- consistorylaw12.SnapsHalf
-- consistorylaw12.SnapsHalf: args [22, 22, 44]; lent []; rs [.t 6]; loops: L1 keeps [0, 1, 5, 21] [5]
def strLaw12SnapsHalf_1 : ByteArray := ⟨#[115, 116, 97, 116, 101]⟩
def strLaw12SnapsHalf_2 : ByteArray := ⟨#[115, 116, 97, 116, 101, 46, 110, 101, 119]⟩
def irLaw12SnapsHalf_L1 : IR := (.seq (.kill [0, 1, 5, 21] [5] (.region [
     (.p 22 (.bin .lss) [.t 21, .c (.pv (.int .i64 3))], none)]))
  (.seq (.cond (.t 22)
    .skip
    (.exit 0))
   (.seq (.block 1 (.seq (.kill [0, 1, 5, 21] [5] (.region [
         (.p 23 .id [.t 21], none),
         (.p 7 .id [.t 23], none)]))
      (.seq (.kill [0, 1, 5, 7, 21] [5] (.region [
          (.call 24 9 [.c (.pv (.int .i64 65536))] [] [24, 524, 624] [], none),
          (.p 8 .id [.t 24], none)]))
       (.seq (.kill [0, 1, 5, 7, 8, 21] [5, 24, 524, 624, 27, 427, 35, 435, 41, 441, 44] (.region [
           (.p 25 .id [.t 8], none),
           (.p 26 .id [.t 0], none),
           (.call 27 15 [.t 25, .c (.pv (.str strLaw12SnapsHalf_1)), .t 26] [24, 524, 624] [27, 427] [], none)]))
        (.seq (.kill [0, 1, 5, 7, 8, 21] [5, 24, 524, 624, 27, 427, 35, 435, 41, 441, 44] (.region [
            (.p 28 .id [.t 8], none),
            (.p 29 .id [.t 1], none),
            (.call 30 16 [.t 29] [] [] [], none),
            (.call 31 10 [.t 28, .c (.pv (.str strLaw12SnapsHalf_2)), .t 30] [24, 27, 427] [] [], none)]))
         (.seq (.seq (.kill [0, 1, 5, 7, 8, 21] [5, 24, 524, 624, 27, 427, 35, 435, 41, 441, 44] (.region [
              (.p 32 .id [.t 7], none),
              (.p 33 (.bin .gtr) [.t 32, .c (.pv (.int .i64 0))], none)]))
           (.cond (.t 33)
            (.seq (.kill [0, 1, 5, 7, 8, 21] [5, 24, 524, 624, 27, 427, 35, 435, 41, 441, 44] (.region [
                (.p 34 .id [.t 8], none),
                (.call 35 19 [.t 34] [24, 27, 427] [35, 435] [], none)]))
             (.kill [0, 1, 5, 7, 8, 21] [5, 24, 524, 624, 27, 427, 35, 435, 41, 441, 44] (.region [
                (.p 36 .id [.t 8], none),
                (.call 37 20 [.t 36, .c (.pv (.str strLaw12SnapsHalf_2)), .c (.pv (.str strLaw12SnapsHalf_1))] [24, 35, 435] [] [], none)])))
            .skip))
          (.seq (.seq (.kill [0, 1, 5, 7, 8, 21] [5, 24, 524, 624, 27, 427, 35, 435, 41, 441, 44] (.region [
               (.p 38 .id [.t 7], none),
               (.p 39 (.bin .gtr) [.t 38, .c (.pv (.int .i64 1))], none)]))
            (.cond (.t 39)
             (.kill [0, 1, 5, 7, 8, 21] [5, 24, 524, 624, 27, 427, 35, 435, 41, 441, 44] (.region [
                (.p 40 .id [.t 8], none),
                (.call 41 19 [.t 40] [24, 35, 435] [41, 441] [], none)]))
             .skip))
           (.alt (.seq (.kill [0, 1, 5, 7, 8, 21] [5, 24, 524, 624, 27, 427, 35, 435, 41, 441, 44] (.region [
               (.p 42 .id [.t 8], none),
               (.load 43 (some (3, true)) (some 5) (.t 5), none),
               (.call 44 21 [.t 42, .t 43] [24, 27, 427] [44] [], none)]))
            (.seq (.kill [0, 1, 5, 7, 8, 21] [5, 24, 524, 624, 27, 427, 35, 435, 41, 441, 44] (.region [
                (.p 46 .id [.t 8], none),
                (.call 47 11 [.t 46, .c (.pv (.str strLaw12SnapsHalf_1))] [24, 27, 44] [] [], none),
                (.p 45 .id [.t 47], none),
                (.p 48 (.ext 0) [.t 45], none),
                (.p 49 (.ext 1) [.t 45], none),
                (.mv 9 48, none),
                (.p 10 .id [.t 49], none)]))
             (.seq (.seq (.kill [0, 1, 5, 7, 8, 9, 10, 21] [5, 24, 524, 624, 27, 427, 35, 435, 41, 441, 44] (.region [
                  (.p 50 .id [.t 10], none),
                  (.p 51 (.bin .neq) [.t 50, .c (.pv (.int .i64 0))], none),
                  (.p 52 .id [.t 51], none),
                  (.p 53 .id [.t 9], some (52, false)),
                  (.p 54 .id [.t 0], some (52, false)),
                  (.call 55 14 [.t 53, .t 54] [] [] [], some (52, false)),
                  (.p 56 (.un .not) [.t 55], some (52, false)),
                  (.p 57 .id [.t 56], some (52, false)),
                  (.p 58 .id [.t 9], some (57, true)),
                  (.p 59 .id [.t 1], some (57, true)),
                  (.call 60 14 [.t 58, .t 59] [] [] [], some (57, true)),
                  (.p 61 .id [.t 60], some (57, true)),
                  (.p 62 .id [.t 7], some (61, true)),
                  (.p 63 (.bin .gtr) [.t 62, .c (.pv (.int .i64 0))], some (61, true)),
                  (.p 64 .pick [.t 61, .t 63, .c (.pv (.bool false))], some (57, true)),
                  (.p 65 (.un .not) [.t 64], some (57, true)),
                  (.p 66 .pick [.t 57, .t 65, .c (.pv (.bool false))], some (52, false)),
                  (.p 67 .pick [.t 52, .c (.pv (.bool true)), .t 66], none)]))
               (.cond (.t 67)
                (.seq (.kill [] [] (.region [
                    (.p 6 .id [.c (.pv (.bool false))], none)]))
                 .ret)
                .skip))
              (.seq (.seq (.kill [0, 1, 5, 7, 8, 9, 21] [5, 24, 524, 624, 27, 427, 35, 435, 41, 441, 44] (.region [
                   (.p 68 .id [.t 7], none),
                   (.p 69 (.bin .eql) [.t 68, .c (.pv (.int .i64 2))], none),
                   (.p 70 .id [.t 69], none),
                   (.mv 71 9, some (70, true)),
                   (.p 72 .id [.t 1], some (70, true)),
                   (.call 73 14 [.t 71, .t 72] [] [] [], some (70, true)),
                   (.p 74 (.un .not) [.t 73], some (70, true)),
                   (.p 75 .pick [.t 70, .t 74, .c (.pv (.bool false))], none)]))
                (.cond (.t 75)
                 (.seq (.kill [] [] (.region [
                     (.p 6 .id [.c (.pv (.bool false))], none)]))
                  .ret)
                 .skip))
               (.seq (.kill [0, 1, 5, 8, 21] [5, 24, 524, 624, 27, 427, 35, 435, 41, 441, 44] (.region [
                   (.p 76 .id [.t 8], none),
                   (.p 77 .id [.t 1], none),
                   (.call 78 15 [.t 76, .c (.pv (.str strLaw12SnapsHalf_1)), .t 77] [24, 27, 44] [78, 478] [], none),
                   (.p 79 (.bin .neq) [.t 78, .c (.pv (.int .i64 0))], none)]))
                (.cond (.t 79)
                 (.seq (.kill [] [] (.region [
                     (.p 6 .id [.c (.pv (.bool false))], none)]))
                  .ret)
                 .skip))))))
 (.alt (.seq (.kill [0, 1, 5, 7, 8, 21] [5, 24, 524, 624, 27, 427, 35, 435, 41, 441, 44] (.region [
               (.p 42 .id [.t 8], none),
               (.load 43 (some (3, true)) (some 5) (.t 5), none),
               (.call 44 21 [.t 42, .t 43] [24, 35, 435] [44] [], none)]))
            (.seq (.kill [0, 1, 5, 7, 8, 21] [5, 24, 524, 624, 27, 427, 35, 435, 41, 441, 44] (.region [
                (.p 46 .id [.t 8], none),
                (.call 47 11 [.t 46, .c (.pv (.str strLaw12SnapsHalf_1))] [24, 35, 44] [] [], none),
                (.p 45 .id [.t 47], none),
                (.p 48 (.ext 0) [.t 45], none),
                (.p 49 (.ext 1) [.t 45], none),
                (.mv 9 48, none),
                (.p 10 .id [.t 49], none)]))
             (.seq (.seq (.kill [0, 1, 5, 7, 8, 9, 10, 21] [5, 24, 524, 624, 27, 427, 35, 435, 41, 441, 44] (.region [
                  (.p 50 .id [.t 10], none),
                  (.p 51 (.bin .neq) [.t 50, .c (.pv (.int .i64 0))], none),
                  (.p 52 .id [.t 51], none),
                  (.p 53 .id [.t 9], some (52, false)),
                  (.p 54 .id [.t 0], some (52, false)),
                  (.call 55 14 [.t 53, .t 54] [] [] [], some (52, false)),
                  (.p 56 (.un .not) [.t 55], some (52, false)),
                  (.p 57 .id [.t 56], some (52, false)),
                  (.p 58 .id [.t 9], some (57, true)),
                  (.p 59 .id [.t 1], some (57, true)),
                  (.call 60 14 [.t 58, .t 59] [] [] [], some (57, true)),
                  (.p 61 .id [.t 60], some (57, true)),
                  (.p 62 .id [.t 7], some (61, true)),
                  (.p 63 (.bin .gtr) [.t 62, .c (.pv (.int .i64 0))], some (61, true)),
                  (.p 64 .pick [.t 61, .t 63, .c (.pv (.bool false))], some (57, true)),
                  (.p 65 (.un .not) [.t 64], some (57, true)),
                  (.p 66 .pick [.t 57, .t 65, .c (.pv (.bool false))], some (52, false)),
                  (.p 67 .pick [.t 52, .c (.pv (.bool true)), .t 66], none)]))
               (.cond (.t 67)
                (.seq (.kill [] [] (.region [
                    (.p 6 .id [.c (.pv (.bool false))], none)]))
                 .ret)
                .skip))
              (.seq (.seq (.kill [0, 1, 5, 7, 8, 9, 21] [5, 24, 524, 624, 27, 427, 35, 435, 41, 441, 44] (.region [
                   (.p 68 .id [.t 7], none),
                   (.p 69 (.bin .eql) [.t 68, .c (.pv (.int .i64 2))], none),
                   (.p 70 .id [.t 69], none),
                   (.mv 71 9, some (70, true)),
                   (.p 72 .id [.t 1], some (70, true)),
                   (.call 73 14 [.t 71, .t 72] [] [] [], some (70, true)),
                   (.p 74 (.un .not) [.t 73], some (70, true)),
                   (.p 75 .pick [.t 70, .t 74, .c (.pv (.bool false))], none)]))
                (.cond (.t 75)
                 (.seq (.kill [] [] (.region [
                     (.p 6 .id [.c (.pv (.bool false))], none)]))
                  .ret)
                 .skip))
               (.seq (.kill [0, 1, 5, 8, 21] [5, 24, 524, 624, 27, 427, 35, 435, 41, 441, 44] (.region [
                   (.p 76 .id [.t 8], none),
                   (.p 77 .id [.t 1], none),
                   (.call 78 15 [.t 76, .c (.pv (.str strLaw12SnapsHalf_1)), .t 77] [24, 35, 44] [78, 478] [], none),
                   (.p 79 (.bin .neq) [.t 78, .c (.pv (.int .i64 0))], none)]))
                (.cond (.t 79)
                 (.seq (.kill [] [] (.region [
                     (.p 6 .id [.c (.pv (.bool false))], none)]))
                  .ret)
                 .skip))))))
 (.seq (.kill [0, 1, 5, 7, 8, 21] [5, 24, 524, 624, 27, 427, 35, 435, 41, 441, 44] (.region [
               (.p 42 .id [.t 8], none),
               (.load 43 (some (3, true)) (some 5) (.t 5), none),
               (.call 44 21 [.t 42, .t 43] [24, 41, 441] [44] [], none)]))
            (.seq (.kill [0, 1, 5, 7, 8, 21] [5, 24, 524, 624, 27, 427, 35, 435, 41, 441, 44] (.region [
                (.p 46 .id [.t 8], none),
                (.call 47 11 [.t 46, .c (.pv (.str strLaw12SnapsHalf_1))] [24, 41, 44] [] [], none),
                (.p 45 .id [.t 47], none),
                (.p 48 (.ext 0) [.t 45], none),
                (.p 49 (.ext 1) [.t 45], none),
                (.mv 9 48, none),
                (.p 10 .id [.t 49], none)]))
             (.seq (.seq (.kill [0, 1, 5, 7, 8, 9, 10, 21] [5, 24, 524, 624, 27, 427, 35, 435, 41, 441, 44] (.region [
                  (.p 50 .id [.t 10], none),
                  (.p 51 (.bin .neq) [.t 50, .c (.pv (.int .i64 0))], none),
                  (.p 52 .id [.t 51], none),
                  (.p 53 .id [.t 9], some (52, false)),
                  (.p 54 .id [.t 0], some (52, false)),
                  (.call 55 14 [.t 53, .t 54] [] [] [], some (52, false)),
                  (.p 56 (.un .not) [.t 55], some (52, false)),
                  (.p 57 .id [.t 56], some (52, false)),
                  (.p 58 .id [.t 9], some (57, true)),
                  (.p 59 .id [.t 1], some (57, true)),
                  (.call 60 14 [.t 58, .t 59] [] [] [], some (57, true)),
                  (.p 61 .id [.t 60], some (57, true)),
                  (.p 62 .id [.t 7], some (61, true)),
                  (.p 63 (.bin .gtr) [.t 62, .c (.pv (.int .i64 0))], some (61, true)),
                  (.p 64 .pick [.t 61, .t 63, .c (.pv (.bool false))], some (57, true)),
                  (.p 65 (.un .not) [.t 64], some (57, true)),
                  (.p 66 .pick [.t 57, .t 65, .c (.pv (.bool false))], some (52, false)),
                  (.p 67 .pick [.t 52, .c (.pv (.bool true)), .t 66], none)]))
               (.cond (.t 67)
                (.seq (.kill [] [] (.region [
                    (.p 6 .id [.c (.pv (.bool false))], none)]))
                 .ret)
                .skip))
              (.seq (.seq (.kill [0, 1, 5, 7, 8, 9, 21] [5, 24, 524, 624, 27, 427, 35, 435, 41, 441, 44] (.region [
                   (.p 68 .id [.t 7], none),
                   (.p 69 (.bin .eql) [.t 68, .c (.pv (.int .i64 2))], none),
                   (.p 70 .id [.t 69], none),
                   (.mv 71 9, some (70, true)),
                   (.p 72 .id [.t 1], some (70, true)),
                   (.call 73 14 [.t 71, .t 72] [] [] [], some (70, true)),
                   (.p 74 (.un .not) [.t 73], some (70, true)),
                   (.p 75 .pick [.t 70, .t 74, .c (.pv (.bool false))], none)]))
                (.cond (.t 75)
                 (.seq (.kill [] [] (.region [
                     (.p 6 .id [.c (.pv (.bool false))], none)]))
                  .ret)
                 .skip))
               (.seq (.kill [0, 1, 5, 8, 21] [5, 24, 524, 624, 27, 427, 35, 435, 41, 441, 44] (.region [
                   (.p 76 .id [.t 8], none),
                   (.p 77 .id [.t 1], none),
                   (.call 78 15 [.t 76, .c (.pv (.str strLaw12SnapsHalf_1)), .t 77] [24, 41, 44] [78, 478] [], none),
                   (.p 79 (.bin .neq) [.t 78, .c (.pv (.int .i64 0))], none)]))
                (.cond (.t 79)
                 (.seq (.kill [] [] (.region [
                     (.p 6 .id [.c (.pv (.bool false))], none)]))
                  .ret)
                 .skip)))))))))))))))
    (.kill [0, 1, 5, 21] [5] (.region [
       (.p 80 (.bin .add) [.t 21, .c (.pv (.int .i64 1))], none),
       (.p 21 .id [.t 80], none)])))))
def irLaw12SnapsHalf : IR := (.seq (.region [
    (.box 5 (.t 2), none),
    (.p 6 .id [.c (.pv (.bool false))], none)])
 (.seq (.seq (.kill [0, 1, 5] [5] (.region [
      (.call 11 8 [] [] [] [], none),
      (.p 12 (.un .not) [.t 11], none)]))
   (.cond (.t 12)
    (.seq (.kill [] [] (.region [
        (.p 6 .id [.c (.pv (.bool false))], none)]))
     .ret)
    .skip))
  (.seq (.seq (.kill [0, 1, 5] [5] (.region [
       (.p 13 .id [.t 0], none),
       (.p 14 (.len none) [.t 13], none),
       (.p 15 (.bin .gtr) [.t 14, .c (.pv (.int .i64 1000))], none),
       (.p 16 .id [.t 15], none),
       (.p 17 .id [.t 1], some (16, false)),
       (.p 18 (.len none) [.t 17], some (16, false)),
       (.p 19 (.bin .gtr) [.t 18, .c (.pv (.int .i64 1000))], some (16, false)),
       (.p 20 .pick [.t 16, .c (.pv (.bool true)), .t 19], none)]))
    (.cond (.t 20)
     (.seq (.kill [] [] (.region [
         (.p 6 .id [.c (.pv (.bool true))], none)]))
      .ret)
     .skip))
   (.seq (.seq (.kill [0, 1, 5] [5] (.region [
        (.p 21 .id [.c (.pv (.int .i64 0))], none)]))
     (.block 0 (.loop (.kill [0, 1, 5, 21] [5] irLaw12SnapsHalf_L1))))
    (.seq (.kill [] [] (.region [
        (.p 6 .id [.c (.pv (.bool true))], none)]))
     .ret)))))
theorem okLaw12SnapsHalf : okFn Try.prog Try.f6 irLaw12SnapsHalf [.t 6] [] 3 = true := by kernel_rfl

end Go.Proofs.Ytlbfpnckoblppaa
