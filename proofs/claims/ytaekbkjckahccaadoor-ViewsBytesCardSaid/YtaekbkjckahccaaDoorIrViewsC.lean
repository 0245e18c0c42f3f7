/- The abstract code of functions, printed by gen_ir.py out of the program's form in Lean; each is checked against it. -/
import Derived.Test.YtaekbkjckahccaaDoorProg
import Derived.Test.YtaekbkjckahccaaDoorIrViews
set_option linter.unusedVariables false
set_option linter.unusedSimpArgs false
set_option maxRecDepth 100000
namespace Go.Proofs.YtaekbkjckahccaaDoor
open Go.Abs
-- views.Put
-- views.Put: args [24]; lent []; rs [.t 2]; loops: 
def irViewsPut : IR := (.seq (.region [
    (.box 1 (.t 0), none),
    (.p 2 .id [.c (.os 5 1 [])], none)])
 (.seq (.seq (.kill [1] [1] (.region [
      (.load 3 (some (2, true)) (some 1) (.t 1), none),
      (.call 4 9 [.t 3] [] [] [], none),
      (.p 5 (.un .not) [.t 4], none)]))
   (.cond (.t 5)
    (.seq (.kill [] [] (.region [
        (.p 2 .id [.c (.os 5 1 [])], none)]))
     .ret)
    .skip))
  (.seq (.kill [1] [1] (.region [
      (.p 6 (.fieldAddr 0) [.t 1], none),
      (.load 7 none (some 1) (.t 6), none),
      (.p 8 (.conv .u64) [.t 7], none),
      (.call 9 38 [.c (.os 5 1 []), .t 8, .c (.pv (.int .i64 2))] [] [] [], none),
      (.p 10 (.fieldAddr 1) [.t 1], none),
      (.load 11 none (some 1) (.t 10), none),
      (.p 12 (.conv .u64) [.t 11], none),
      (.call 13 38 [.t 9, .t 12, .c (.pv (.int .i64 2))] [] [] [], none),
      (.mv 2 13, none)]))
   .ret)))
theorem okViewsPut : okFn Tryd.prog Tryd.f29 irViewsPut [.t 2] [] 1 = true := by kernel_rfl

-- views.Get
-- views.Get: args [43]; lent []; rs [.cell 2 (some (2, true)), .t 3]; loops: 
def irViewsGet : IR := (.seq (.region [
    (.alloc 2 (.pagg [.int .i64 0, .int .u16 0]), none),
    (.p 3 .id [.c (.pv (.int .i64 0))], none)])
 (.seq (.kill [0, 2] [2] (.region [
     (.mv 10 0, none),
     (.call 11 39 [.t 10] [] [11] [], none),
     (.p 4 .id [.t 11], none)]))
  (.seq (.kill [2, 4] [2, 11] (.region [
      (.p 13 .id [.t 4], none),
      (.call 14 40 [.t 13, .c (.pv (.int .i64 2))] [11] [] [], none),
      (.p 12 .id [.t 14], none),
      (.p 15 (.ext 0) [.t 12], none),
      (.p 16 (.ext 1) [.t 12], none),
      (.p 5 .id [.t 15], none),
      (.p 6 .id [.t 16], none)]))
   (.seq (.kill [2, 4, 5] [2, 11] (.region [
       (.p 18 .id [.t 4], none),
       (.call 19 40 [.t 18, .c (.pv (.int .i64 2))] [11] [] [], none),
       (.p 17 .id [.t 19], none),
       (.p 20 (.ext 0) [.t 17], none),
       (.p 21 (.ext 1) [.t 17], none),
       (.p 7 .id [.t 20], none),
       (.p 8 .id [.t 21], none)]))
    (.seq (.seq (.kill [2, 4, 5, 7, 8] [2, 11] (.region [
         (.p 22 .id [.t 8], none),
         (.p 23 (.bin .neq) [.t 22, .c (.pv (.int .i64 0))], none)]))
      (.cond (.t 23)
       (.seq (.kill [2] [2] (.region [
           (.build 24 (.pagg [.int .i64 0, .int .u16 0]) [], none),
           (.store (some (2, true)) (some 2) (.t 2) (.t 24), none),
           (.p 3 .id [.c (.pv (.int .i64 1))], none)]))
        .ret)
       .skip))
     (.seq (.kill [2, 4, 5, 7] [2, 11] (.region [
         (.p 25 .id [.t 5], none),
         (.p 26 (.conv .i64) [.t 25], none),
         (.p 27 .id [.t 7], none),
         (.p 28 (.conv .u16) [.t 27], none),
         (.build 29 (.pagg [.int .i64 0, .int .u16 0]) [(0, 1, .t 26), (1, 1, .t 28)], none),
         (.alloc 9 (.pagg [.int .i64 0, .int .u16 0]), none),
         (.store (some (2, true)) (some 9) (.t 9) (.t 29), none)]))
      (.seq (.seq (.kill [2, 4, 9] [2, 9, 11] (.region [
           (.p 30 .id [.t 4], none),
           (.call 31 41 [.t 30] [11] [] [], none),
           (.p 32 (.bin .neq) [.t 31, .c (.pv (.int .i64 0))], none),
           (.p 33 .id [.t 32], none),
           (.load 34 (some (2, true)) (some 9) (.t 9), some (33, false)),
           (.call 35 9 [.t 34] [] [] [], some (33, false)),
           (.p 36 (.un .not) [.t 35], some (33, false)),
           (.p 37 .pick [.t 33, .c (.pv (.bool true)), .t 36], none)]))
        (.cond (.t 37)
         (.seq (.kill [2] [2] (.region [
             (.build 38 (.pagg [.int .i64 0, .int .u16 0]) [], none),
             (.store (some (2, true)) (some 2) (.t 2) (.t 38), none),
             (.p 3 .id [.c (.pv (.int .i64 2))], none)]))
          .ret)
         .skip))
       (.seq (.kill [2, 9] [2, 9] (.region [
           (.load 39 (some (2, true)) (some 9) (.t 9), none),
           (.store (some (2, true)) (some 2) (.t 2) (.t 39), none),
           (.p 3 .id [.c (.pv (.int .i64 0))], none)]))
        .ret))))))))
theorem okViewsGet : okFn Tryd.prog Tryd.f30 irViewsGet [.cell 2 (some (2, true)), .t 3] [] 1 = true := by kernel_rfl

-- consistoryref06.Put
-- consistoryref06.Put: args [24]; lent []; rs [.t 2]; loops: 
def irRef06Put : IR := (.seq (.region [
    (.box 1 (.t 0), none),
    (.p 2 .id [.c (.os 5 1 [])], none)])
 (.seq (.seq (.kill [1] [1] (.region [
      (.load 3 (some (2, true)) (some 1) (.t 1), none),
      (.call 4 13 [.t 3] [] [] [], none),
      (.p 5 (.un .not) [.t 4], none)]))
   (.cond (.t 5)
    (.seq (.kill [] [] (.region [
        (.p 2 .id [.c (.os 5 1 [])], none)]))
     .ret)
    .skip))
  (.seq (.kill [1] [1] (.region [
      (.p 6 (.fieldAddr 0) [.t 1], none),
      (.load 7 none (some 1) (.t 6), none),
      (.p 8 (.conv .u64) [.t 7], none),
      (.call 9 44 [.t 8, .c (.pv (.int .i64 2))] [] [] [], none),
      (.p 10 (.fieldAddr 1) [.t 1], none),
      (.load 11 none (some 1) (.t 10), none),
      (.p 12 (.conv .u64) [.t 11], none),
      (.call 13 44 [.t 12, .c (.pv (.int .i64 2))] [] [] [], none),
      (.call 14 43 [.t 9, .t 13] [] [] [], none),
      (.mv 2 14, none)]))
   .ret)))
theorem okRef06Put : okFn Tryd.prog Tryd.f33 irRef06Put [.t 2] [] 1 = true := by kernel_rfl

-- consistoryref06.Get
-- consistoryref06.Get: args [43]; lent []; rs [.cell 2 (some (2, true)), .t 3]; loops: 
def irRef06Get : IR := (.seq (.region [
    (.alloc 2 (.pagg [.int .i64 0, .int .u16 0]), none),
    (.p 3 .id [.c (.pv (.int .i64 0))], none)])
 (.seq (.seq (.kill [0, 2] [2] (.region [
      (.p 5 .id [.t 0], none),
      (.p 6 (.len none) [.t 5], none),
      (.p 7 (.bin .lss) [.t 6, .c (.pv (.int .i64 4))], none)]))
   (.cond (.t 7)
    (.seq (.kill [2] [2] (.region [
        (.build 8 (.pagg [.int .i64 0, .int .u16 0]) [], none),
        (.store (some (2, true)) (some 2) (.t 2) (.t 8), none),
        (.p 3 .id [.c (.pv (.int .i64 1))], none)]))
     .ret)
    .skip))
  (.seq (.kill [0, 2] [2] (.region [
      (.p 9 .id [.t 0], none),
      (.call 10 42 [.t 9, .c (.pv (.int .i64 0)), .c (.pv (.int .i64 2))] [] [] [], none),
      (.p 11 (.field 0 none) [.t 10], none),
      (.p 12 (.conv .i64) [.t 11], none),
      (.p 13 .id [.t 0], none),
      (.call 14 42 [.t 13, .c (.pv (.int .i64 2)), .c (.pv (.int .i64 2))] [] [] [], none),
      (.p 15 (.field 0 none) [.t 14], none),
      (.p 16 (.conv .u16) [.t 15], none),
      (.build 17 (.pagg [.int .i64 0, .int .u16 0]) [(0, 1, .t 12), (1, 1, .t 16)], none),
      (.alloc 4 (.pagg [.int .i64 0, .int .u16 0]), none),
      (.store (some (2, true)) (some 4) (.t 4) (.t 17), none)]))
   (.seq (.seq (.kill [0, 2, 4] [2, 4] (.region [
        (.mv 18 0, none),
        (.p 19 (.len none) [.t 18], none),
        (.p 20 (.bin .gtr) [.t 19, .c (.pv (.int .i64 4))], none),
        (.p 21 .id [.t 20], none),
        (.load 22 (some (2, true)) (some 4) (.t 4), some (21, false)),
        (.call 23 13 [.t 22] [] [] [], some (21, false)),
        (.p 24 (.un .not) [.t 23], some (21, false)),
        (.p 25 .pick [.t 21, .c (.pv (.bool true)), .t 24], none)]))
     (.cond (.t 25)
      (.seq (.kill [2] [2] (.region [
          (.build 26 (.pagg [.int .i64 0, .int .u16 0]) [], none),
          (.store (some (2, true)) (some 2) (.t 2) (.t 26), none),
          (.p 3 .id [.c (.pv (.int .i64 2))], none)]))
       .ret)
      .skip))
    (.seq (.kill [2, 4] [2, 4] (.region [
        (.load 27 (some (2, true)) (some 4) (.t 4), none),
        (.store (some (2, true)) (some 2) (.t 2) (.t 27), none),
        (.p 3 .id [.c (.pv (.int .i64 0))], none)]))
     .ret)))))
theorem okRef06Get : okFn Tryd.prog Tryd.f31 irRef06Get [.cell 2 (some (2, true)), .t 3] [] 1 = true := by kernel_rfl

-- consistorylaw06.ViewsBytes
-- consistorylaw06.ViewsBytes: args [24, 43]; lent []; rs [.t 4]; loops: 
def irLaw06ViewsBytes : IR := (.seq (.region [
    (.box 2 (.t 0), none),
    (.p 4 .id [.c (.pv (.bool false))], none)])
 (.seq (.seq (.kill [1, 2] [2] (.region [
      (.call 12 8 [] [] [] [], none),
      (.p 13 (.un .not) [.t 12], none)]))
   (.cond (.t 13)
    (.seq (.kill [] [] (.region [
        (.p 4 .id [.c (.pv (.bool false))], none)]))
     .ret)
    .skip))
  (.seq (.seq (.kill [1, 2] [2] (.region [
       (.p 14 .id [.t 1], none),
       (.p 15 (.len none) [.t 14], none),
       (.p 16 (.bin .gtr) [.t 15, .c (.pv (.int .i64 100))], none)]))
    (.cond (.t 16)
     (.seq (.kill [] [] (.region [
         (.p 4 .id [.c (.pv (.bool true))], none)]))
      .ret)
     .skip))
   (.seq (.kill [1, 2] [2] (.region [
       (.load 17 (some (2, true)) (some 2) (.t 2), none),
       (.call 18 29 [.t 17] [] [] [], none),
       (.mv 5 18, none)]))
    (.seq (.kill [1, 2, 5] [2] (.region [
        (.bslice 20 5 1 0 [.int .u8 0] [], none),
        (.p 21 .id [.t 1], none),
        (.app 22 5 1 20 none (.t 21), none),
        (.call 23 30 [.t 22] [] [] [], none),
        (.p 19 .id [.t 23], none),
        (.p 24 (.ext 0) [.t 19], none),
        (.p 25 (.ext 1) [.t 19], none),
        (.alloc 6 (.pagg [.int .i64 0, .int .u16 0]), none),
        (.store (some (2, true)) (some 6) (.t 6) (.t 24), none),
        (.p 7 .id [.t 25], none)]))
     (.seq (.kill [1, 2, 5, 6, 7] [2, 6] (.region [
         (.p 27 .id [.t 1], none),
         (.call 28 31 [.t 27] [] [] [], none),
         (.p 26 .id [.t 28], none),
         (.p 29 (.ext 0) [.t 26], none),
         (.p 30 (.ext 1) [.t 26], none),
         (.alloc 8 (.pagg [.int .i64 0, .int .u16 0]), none),
         (.store (some (2, true)) (some 8) (.t 8) (.t 29), none),
         (.p 9 .id [.t 30], none)]))
      (.seq (.seq (.kill [1, 2, 5, 6, 7, 8, 9] [2, 6, 8] (.region [
           (.p 31 .id [.t 5], none),
           (.load 32 (some (2, true)) (some 2) (.t 2), none),
           (.call 33 33 [.t 32] [] [] [], none),
           (.call 34 32 [.t 31, .t 33] [] [] [], none),
           (.p 35 (.un .not) [.t 34], none),
           (.p 36 .id [.t 35], none),
           (.load 37 (some (2, true)) (some 6) (.t 6), some (36, false)),
           (.load 38 (some (2, true)) (some 8) (.t 8), some (36, false)),
           (.p 39 (.seq true [.i .i64, .i .u16]) [.t 37, .t 38], some (36, false)),
           (.p 40 .pick [.t 36, .c (.pv (.bool true)), .t 39], none),
           (.p 41 .id [.t 40], none),
           (.p 42 .id [.t 7], some (41, false)),
           (.p 43 .id [.t 9], some (41, false)),
           (.p 44 (.bin .neq) [.t 42, .t 43], some (41, false)),
           (.p 45 .pick [.t 41, .c (.pv (.bool true)), .t 44], none)]))
        (.cond (.t 45)
         (.seq (.kill [] [] (.region [
             (.p 4 .id [.c (.pv (.bool false))], none)]))
          .ret)
         .skip))
       (.seq (.seq (.kill [1, 2, 5, 6, 7] [2, 6] (.region [
            (.p 46 .id [.t 7], none),
            (.p 47 (.bin .eql) [.t 46, .c (.pv (.int .i64 0))], none),
            (.p 48 .id [.t 47], none),
            (.load 49 (some (2, true)) (some 6) (.t 6), some (48, true)),
            (.call 50 29 [.t 49] [] [] [], some (48, true)),
            (.mv 51 1, some (48, true)),
            (.call 52 32 [.t 50, .t 51] [] [] [], some (48, true)),
            (.p 53 (.un .not) [.t 52], some (48, true)),
            (.p 54 .pick [.t 48, .t 53, .c (.pv (.bool false))], none)]))
         (.cond (.t 54)
          (.seq (.kill [] [] (.region [
              (.p 4 .id [.c (.pv (.bool false))], none)]))
           .ret)
          .skip))
        (.seq (.kill [2, 5] [2] (.region [
            (.mv 56 5, none),
            (.call 57 30 [.t 56] [] [] [], none),
            (.p 55 .id [.t 57], none),
            (.p 58 (.ext 0) [.t 55], none),
            (.p 59 (.ext 1) [.t 55], none),
            (.alloc 10 (.pagg [.int .i64 0, .int .u16 0]), none),
            (.store (some (2, true)) (some 10) (.t 10) (.t 58), none),
            (.p 11 .id [.t 59], none)]))
         (.seq (.kill [2, 10, 11] [2, 10] (.region [
             (.load 60 (some (2, true)) (some 2) (.t 2), none),
             (.call 61 13 [.t 60] [] [] [], none),
             (.p 62 (.un .not) [.t 61], none),
             (.p 63 .id [.t 62], none),
             (.p 64 .id [.t 11], some (63, false)),
             (.p 65 (.bin .eql) [.t 64, .c (.pv (.int .i64 0))], some (63, false)),
             (.p 66 .id [.t 65], some (63, false)),
             (.load 67 (some (2, true)) (some 10) (.t 10), some (66, true)),
             (.load 68 (some (2, true)) (some 2) (.t 2), some (66, true)),
             (.p 69 (.seq false [.i .i64, .i .u16]) [.t 67, .t 68], some (66, true)),
             (.p 70 .pick [.t 66, .t 69, .c (.pv (.bool false))], some (63, false)),
             (.p 71 .pick [.t 63, .c (.pv (.bool true)), .t 70], none),
             (.p 4 .id [.t 71], none)]))
          .ret))))))))))
theorem okLaw06ViewsBytes : okFn Tryd.prog Tryd.f7 irLaw06ViewsBytes [.t 4] [] 2 = true := by kernel_rfl

end Go.Proofs.YtaekbkjckahccaaDoor
