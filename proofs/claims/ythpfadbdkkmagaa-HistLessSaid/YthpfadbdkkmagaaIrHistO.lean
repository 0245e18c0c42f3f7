/- The abstract code of functions, printed by gen_ir.py out of the program's form in Lean; each is checked against it. -/
import Derived.Test.YthpfadbdkkmagaaProg
import Derived.Test.YthpfadbdkkmagaaIrHist
set_option linter.unusedVariables false
set_option linter.unusedSimpArgs false
set_option maxRecDepth 100000
namespace Go.Proofs.Ythpfadbdkkmagaa
open Go.Abs
-- consistorylaw26.HistLess
-- consistorylaw26.HistLess: args [24, 25]; lent []; rs [.t 4]; loops: L1 keeps [1, 2, 5, 6, 7, 24, 25, 26] [2]
def irLaw26HistLess_L1 : IR := (.seq (.kill [1, 2, 5, 6, 7, 24, 25, 26] [2] (.region [
     (.p 27 (.bin .lss) [.t 26, .t 25], none)]))
  (.seq (.cond (.t 27)
    .skip
    (.exit 0))
   (.seq (.block 1 (.seq (.kill [1, 2, 5, 6, 7, 24, 25, 26] [2] (.region [
         (.p 28 .id [.t 26], none),
         (.p 29 (.indexAddr none 9) [.t 24, .t 26], none),
         (.load 30 (some (9, true)) (some 9999) (.t 29), none),
         (.alloc 9 (.pagg [.int .i64 0, .int .i64 0, .int .i64 0, .int .i64 0, .int .i64 0, .int .i64 0, .bool false, .bool false, .int .i64 0]), none),
         (.p 8 .id [.t 28], none),
         (.store (some (9, true)) (some 9) (.t 9) (.t 30), none)]))
      (.seq (.kill [1, 2, 5, 6, 7, 8, 9, 24, 25, 26] [2, 9] (.region [
          (.p 31 (.fieldAddr 6) [.t 9], none),
          (.load 32 none (some 9) (.t 31), none),
          (.p 33 .id [.t 32], none),
          (.p 34 .id [.t 7], some (33, true)),
          (.p 35 (.bin .lss) [.t 34, .c (.pv (.int .i64 0))], some (33, true)),
          (.p 36 .id [.t 35], some (33, true)),
          (.p 37 (.fieldAddr 5) [.t 9], some (36, false)),
          (.load 38 none (some 9) (.t 37), some (36, false)),
          (.p 39 .id [.t 1], some (36, false)),
          (.p 40 .id [.t 7], some (36, false)),
          (.p 41 (.indexAddr none 9) [.t 39, .t 40], some (36, false)),
          (.p 42 (.fieldAddr 5) [.t 41], some (36, false)),
          (.load 43 none (some 9999) (.t 42), some (36, false)),
          (.p 44 (.bin .gtr) [.t 38, .t 43], some (36, false)),
          (.p 45 .pick [.t 36, .c (.pv (.bool true)), .t 44], some (33, true)),
          (.p 46 .pick [.t 33, .t 45, .c (.pv (.bool false))], none)]))
       (.cond (.t 46)
        (.kill [1, 2, 5, 6, 8, 24, 25, 26] [2] (.region [
           (.p 47 .id [.t 8], none),
           (.p 7 .id [.t 47], none)]))
        .skip))))
    (.kill [1, 2, 5, 6, 7, 24, 25, 26] [2] (.region [
       (.p 48 (.bin .add) [.t 26, .c (.pv (.int .i64 1))], none),
       (.p 26 .id [.t 48], none)])))))
def irLaw26HistLess : IR := (.seq (.region [
    (.box 2 (.t 0), none),
    (.p 4 .id [.c (.pv (.bool false))], none)])
 (.seq (.seq (.kill [1, 2] [2] (.region [
      (.call 13 9 [] [] [] [], none),
      (.p 14 (.un .not) [.t 13], none)]))
   (.cond (.t 14)
    (.seq (.kill [] [] (.region [
        (.p 4 .id [.c (.pv (.bool false))], none)]))
     .ret)
    .skip))
  (.seq (.seq (.kill [1, 2] [2] (.region [
       (.p 15 .id [.t 1], none),
       (.p 16 (.len none) [.t 15], none),
       (.p 17 (.bin .gtr) [.t 16, .c (.pv (.int .i64 8))], none)]))
    (.cond (.t 17)
     (.seq (.kill [] [] (.region [
         (.p 4 .id [.c (.pv (.bool true))], none)]))
      .ret)
     .skip))
   (.seq (.kill [1, 2] [2] (.region [
       (.load 19 (some (32, true)) (some 2) (.t 2), none),
       (.p 20 .id [.t 1], none),
       (.call 21 10 [.t 19, .t 20] [] [] [], none),
       (.p 18 .id [.t 21], none),
       (.p 22 (.ext 0) [.t 18], none),
       (.p 23 (.ext 1) [.t 18], none),
       (.p 5 .id [.t 22], none),
       (.p 6 .id [.t 23], none)]))
    (.seq (.kill [1, 2, 5, 6] [2] (.region [
        (.p 7 .id [.c (.pv (.int .i64 (-1)))], none)]))
     (.seq (.seq (.kill [1, 2, 5, 6, 7] [2] (.region [
          (.p 24 .id [.t 1], none),
          (.p 25 (.len none) [.t 24], none),
          (.p 26 .id [.c (.pv (.int .i64 0))], none)]))
       (.block 0 (.loop (.kill [1, 2, 5, 6, 7, 24, 25, 26] [2] irLaw26HistLess_L1))))
      (.seq (.seq (.kill [1, 2, 5, 6, 7] [2] (.region [
           (.p 49 .id [.t 5], none),
           (.p 50 (.un .not) [.t 49], none),
           (.p 51 .id [.t 50], none),
           (.p 52 .id [.t 6], some (51, false)),
           (.p 53 (.bin .neq) [.t 52, .c (.pv (.int .i64 0))], some (51, false)),
           (.p 54 .pick [.t 51, .c (.pv (.bool true)), .t 53], none),
           (.p 55 .id [.t 54], none),
           (.p 56 .id [.t 7], some (55, false)),
           (.p 57 (.bin .lss) [.t 56, .c (.pv (.int .i64 0))], some (55, false)),
           (.p 58 .pick [.t 55, .c (.pv (.bool true)), .t 57], none)]))
        (.cond (.t 58)
         (.seq (.kill [] [] (.region [
             (.p 4 .id [.c (.pv (.bool true))], none)]))
          .ret)
         .skip))
       (.seq (.kill [1, 2, 7] [2] (.region [
           (.mk0 59 40 9, none),
           (.mv 60 1, none),
           (.appx 61 40 9 59 none (.t 60), none),
           (.mv 10 61, none)]))
        (.seq (.kill [2, 7, 10] [2, 61] (.region [
            (.p 62 .id [.t 10], none),
            (.p 63 .id [.t 7], none),
            (.p 64 .id [.t 10], none),
            (.p 65 .id [.t 7], none),
            (.p 66 .id [.t 10], none),
            (.p 67 .id [.t 7], none),
            (.build 68 (.pagg [.bool false, .int .i64 0]) [], none),
            (.p 69 (.indexAddr none 9) [.t 62, .t 63], none),
            (.p 70 (.fieldAddr 6) [.t 69], none),
            (.store none (some 61) (.t 70) (.c (.pv (.bool false))), none),
            (.p 71 (.indexAddr none 9) [.t 64, .t 65], none),
            (.p 72 (.fieldAddr 7) [.t 71], none),
            (.store (some (2, false)) (some 61) (.t 72) (.t 68), none),
            (.p 73 (.indexAddr none 9) [.t 66, .t 67], none),
            (.p 74 (.fieldAddr 5) [.t 73], none),
            (.store none (some 61) (.t 74) (.c (.pv (.int .i64 0))), none)]))
         (.seq (.kill [2, 10] [2, 61] (.region [
             (.load 76 (some (32, true)) (some 2) (.t 2), none),
             (.mv 77 10, none),
             (.call 78 10 [.t 76, .t 77] [] [] [61], none),
             (.p 75 .id [.t 78], none),
             (.p 79 (.ext 0) [.t 75], none),
             (.p 80 (.ext 1) [.t 75], none),
             (.p 11 .id [.t 79], none),
             (.p 12 .id [.t 80], none)]))
          (.seq (.kill [11, 12] [] (.region [
              (.p 81 .id [.t 11], none),
              (.p 82 .id [.t 81], none),
              (.p 83 .id [.t 12], some (82, true)),
              (.p 84 (.bin .eql) [.t 83, .c (.pv (.int .i64 0))], some (82, true)),
              (.p 85 .pick [.t 82, .t 84, .c (.pv (.bool false))], none),
              (.p 4 .id [.t 85], none)]))
           .ret)))))))))))
theorem okLaw26HistLess : okFn Try.prog Try.f5 irLaw26HistLess [.t 4] [] 2 = true := by kernel_rfl

-- consistorylaw26.HistShift
-- consistorylaw26.HistShift: args [24, 25, 45]; lent []; rs [.t 6]; loops: L1 keeps [1, 3, 5, 7, 8, 28, 29] [3, 5, 21]
def irLaw26HistShift_L1 : IR := (.seq (.kill [1, 3, 5, 7, 8, 28, 29] [3, 5, 21] (.region [
     (.p 30 (.bin .lss) [.t 29, .t 28], none)]))
  (.seq (.cond (.t 30)
    .skip
    (.exit 0))
   (.seq (.block 1 (.seq (.kill [1, 3, 5, 7, 8, 28, 29] [3, 5, 21] (.region [
         (.p 31 .id [.t 29], none),
         (.p 9 .id [.t 31], none)]))
      (.seq (.seq (.kill [1, 3, 5, 7, 8, 9, 28, 29] [3, 5, 21] (.region [
           (.p 32 .id [.t 7], none),
           (.p 33 .id [.t 9], none),
           (.p 34 (.indexAddr none 9) [.t 32, .t 33], none),
           (.p 35 (.fieldAddr 4) [.t 34], none),
           (.load 36 none (some 21) (.t 35), none),
           (.p 37 (.bin .gtr) [.t 36, .c (.pv (.int .i64 1073741824))], none),
           (.p 38 .id [.t 37], none),
           (.p 39 .id [.t 7], some (38, false)),
           (.p 40 .id [.t 9], some (38, false)),
           (.p 41 (.indexAddr none 9) [.t 39, .t 40], some (38, false)),
           (.p 42 (.fieldAddr 4) [.t 41], some (38, false)),
           (.load 43 none (some 21) (.t 42), some (38, false)),
           (.p 44 (.bin .lss) [.t 43, .c (.pv (.int .i64 (-1073741824)))], some (38, false)),
           (.p 45 .pick [.t 38, .c (.pv (.bool true)), .t 44], none),
           (.p 46 .id [.t 45], none),
           (.p 47 .id [.t 7], some (46, false)),
           (.p 48 .id [.t 9], some (46, false)),
           (.p 49 (.indexAddr none 9) [.t 47, .t 48], some (46, false)),
           (.p 50 (.fieldAddr 5) [.t 49], some (46, false)),
           (.load 51 none (some 21) (.t 50), some (46, false)),
           (.p 52 (.bin .gtr) [.t 51, .c (.pv (.int .i64 1073741824))], some (46, false)),
           (.p 53 .pick [.t 46, .c (.pv (.bool true)), .t 52], none),
           (.p 54 .id [.t 53], none),
           (.p 55 .id [.t 7], some (54, false)),
           (.p 56 .id [.t 9], some (54, false)),
           (.p 57 (.indexAddr none 9) [.t 55, .t 56], some (54, false)),
           (.p 58 (.fieldAddr 5) [.t 57], some (54, false)),
           (.load 59 none (some 21) (.t 58), some (54, false)),
           (.p 60 (.bin .lss) [.t 59, .c (.pv (.int .i64 (-1073741824)))], some (54, false)),
           (.p 61 .pick [.t 54, .c (.pv (.bool true)), .t 60], none)]))
        (.cond (.t 61)
         (.seq (.kill [] [] (.region [
             (.p 6 .id [.c (.pv (.bool true))], none)]))
          .ret)
         .skip))
       (.seq (.kill [1, 3, 5, 7, 8, 9, 28, 29] [3, 5, 21] (.region [
           (.p 62 .id [.t 7], none),
           (.p 63 .id [.t 9], none),
           (.p 64 .id [.t 8], none),
           (.p 65 .id [.t 7], none),
           (.p 66 .id [.t 9], none),
           (.p 67 (.indexAddr none 9) [.t 65, .t 66], none),
           (.p 68 (.fieldAddr 4) [.t 67], none),
           (.load 69 none (some 21) (.t 68), none),
           (.p 70 (.bin .mul) [.t 64, .t 69], none),
           (.p 71 (.indexAddr (some 2) 1) [.t 5, .c (.pv (.int .i64 0))], none),
           (.load 72 none (some 5) (.t 71), none),
           (.p 73 (.conv .i64) [.t 72], none),
           (.p 74 (.bin .add) [.t 70, .t 73], none),
           (.p 75 (.indexAddr none 9) [.t 62, .t 63], none),
           (.p 76 (.fieldAddr 4) [.t 75], none),
           (.store none (some 21) (.t 76) (.t 74), none)]))
        (.kill [1, 3, 5, 7, 8, 9, 28, 29] [3, 5, 21] (.region [
           (.p 77 .id [.t 7], none),
           (.p 78 .id [.t 9], none),
           (.p 79 .id [.t 8], none),
           (.p 80 .id [.t 7], none),
           (.p 81 .id [.t 9], none),
           (.p 82 (.indexAddr none 9) [.t 80, .t 81], none),
           (.p 83 (.fieldAddr 5) [.t 82], none),
           (.load 84 none (some 21) (.t 83), none),
           (.p 85 (.bin .mul) [.t 79, .t 84], none),
           (.p 86 (.indexAddr (some 2) 1) [.t 5, .c (.pv (.int .i64 0))], none),
           (.load 87 none (some 5) (.t 86), none),
           (.p 88 (.conv .i64) [.t 87], none),
           (.p 89 (.bin .add) [.t 85, .t 88], none),
           (.p 90 (.indexAddr none 9) [.t 77, .t 78], none),
           (.p 91 (.fieldAddr 5) [.t 90], none),
           (.store none (some 21) (.t 91) (.t 89), none)]))))))
    (.kill [1, 3, 5, 7, 8, 28, 29] [3, 5, 21] (.region [
       (.p 92 (.bin .add) [.t 29, .c (.pv (.int .i64 1))], none),
       (.p 29 .id [.t 92], none)])))))
def irLaw26HistShift : IR := (.seq (.region [
    (.box 3 (.t 0), none),
    (.box 5 (.t 2), none),
    (.p 6 .id [.c (.pv (.bool false))], none)])
 (.seq (.seq (.kill [1, 3, 5] [3, 5] (.region [
      (.call 14 9 [] [] [] [], none),
      (.p 15 (.un .not) [.t 14], none)]))
   (.cond (.t 15)
    (.seq (.kill [] [] (.region [
        (.p 6 .id [.c (.pv (.bool false))], none)]))
     .ret)
    .skip))
  (.seq (.seq (.kill [1, 3, 5] [3, 5] (.region [
       (.p 16 .id [.t 1], none),
       (.p 17 (.len none) [.t 16], none),
       (.p 18 (.bin .gtr) [.t 17, .c (.pv (.int .i64 8))], none)]))
    (.cond (.t 18)
     (.seq (.kill [] [] (.region [
         (.p 6 .id [.c (.pv (.bool true))], none)]))
      .ret)
     .skip))
   (.seq (.kill [1, 3, 5] [3, 5] (.region [
       (.mk0 19 40 9, none),
       (.p 20 .id [.t 1], none),
       (.appx 21 40 9 19 none (.t 20), none),
       (.mv 7 21, none)]))
    (.seq (.kill [1, 3, 5, 7] [3, 5, 21] (.region [
        (.p 22 (.indexAddr (some 2) 1) [.t 5, .c (.pv (.int .i64 1))], none),
        (.load 23 none (some 5) (.t 22), none),
        (.p 24 (.conv .i64) [.t 23], none),
        (.p 25 (.bin .rem) [.t 24, .c (.pv (.int .i64 7))], none),
        (.p 26 (.bin .add) [.c (.pv (.int .i64 1)), .t 25], none),
        (.p 8 .id [.t 26], none)]))
     (.seq (.seq (.kill [1, 3, 5, 7, 8] [3, 5, 21] (.region [
          (.p 27 .id [.t 7], none),
          (.p 28 (.len none) [.t 27], none),
          (.p 29 .id [.c (.pv (.int .i64 0))], none)]))
       (.block 0 (.loop (.kill [1, 3, 5, 7, 8, 28, 29] [3, 5, 21] irLaw26HistShift_L1))))
      (.seq (.kill [1, 3, 7] [3, 21] (.region [
          (.load 94 (some (32, true)) (some 3) (.t 3), none),
          (.mv 95 1, none),
          (.call 96 10 [.t 94, .t 95] [] [] [], none),
          (.p 93 .id [.t 96], none),
          (.p 97 (.ext 0) [.t 93], none),
          (.p 98 (.ext 1) [.t 93], none),
          (.p 10 .id [.t 97], none),
          (.p 11 .id [.t 98], none)]))
       (.seq (.kill [3, 7, 10, 11] [3, 21] (.region [
           (.load 100 (some (32, true)) (some 3) (.t 3), none),
           (.mv 101 7, none),
           (.call 102 10 [.t 100, .t 101] [] [] [21], none),
           (.p 99 .id [.t 102], none),
           (.p 103 (.ext 0) [.t 99], none),
           (.p 104 (.ext 1) [.t 99], none),
           (.p 12 .id [.t 103], none),
           (.p 13 .id [.t 104], none)]))
        (.seq (.kill [10, 11, 12, 13] [] (.region [
            (.p 105 .id [.t 10], none),
            (.p 106 .id [.t 12], none),
            (.p 107 (.beq false) [.t 105, .t 106], none),
            (.p 108 .id [.t 107], none),
            (.p 109 .id [.t 11], some (108, true)),
            (.p 110 .id [.t 13], some (108, true)),
            (.p 111 (.bin .eql) [.t 109, .t 110], some (108, true)),
            (.p 112 .pick [.t 108, .t 111, .c (.pv (.bool false))], none),
            (.p 6 .id [.t 112], none)]))
         .ret)))))))))
theorem okLaw26HistShift : okFn Try.prog Try.f6 irLaw26HistShift [.t 6] [] 3 = true := by kernel_rfl

end Go.Proofs.Ythpfadbdkkmagaa
