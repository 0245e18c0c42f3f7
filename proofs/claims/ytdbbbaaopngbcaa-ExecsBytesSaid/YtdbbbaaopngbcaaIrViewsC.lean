/- The abstract code of functions, printed by gen_ir.py out of the program's form in Lean; each is checked against it. -/
import Derived.Test.YtdbbbaaopngbcaaProg
import Derived.Test.YtdbbbaaopngbcaaIrNums
set_option linter.unusedVariables false
set_option linter.unusedSimpArgs false
set_option maxRecDepth 100000
namespace Go.Proofs.Ytdbbbaaopngbcaa
open Go.Abs
-- views.Put
-- views.Put: args [24]; lent []; rs [.t 2]; loops: 
def irViewsPut : IR := (.seq (.region [
    (.box 1 (.t 0), none),
    (.p 2 .id [.c (.os 5 1 [])], none)])
 (.seq (.seq (.kill [1] [1] (.region [
      (.load 3 (some (2, true)) (some 1) (.t 1), none),
      (.call 4 50 [.t 3] [] [] [], none),
      (.p 5 (.un .not) [.t 4], none)]))
   (.cond (.t 5)
    (.seq (.kill [] [] (.region [
        (.p 2 .id [.c (.os 5 1 [])], none)]))
     .ret)
    .skip))
  (.seq (.kill [1] [1] (.region [
      (.p 6 (.fieldAddr 0) [.t 1], none),
      (.load 7 none (some 1) (.t 6), none),
      (.p 8 (.conv .u64) [.t 7], none),
      (.call 9 28 [.c (.os 5 1 []), .t 8, .c (.pv (.int .i64 2))] [] [] [], none),
      (.p 10 (.fieldAddr 1) [.t 1], none),
      (.load 11 none (some 1) (.t 10), none),
      (.p 12 (.conv .u64) [.t 11], none),
      (.call 13 28 [.t 9, .t 12, .c (.pv (.int .i64 2))] [] [] [], none),
      (.mv 2 13, none)]))
   .ret)))
theorem okViewsPut : okFn Try.prog Try.f29 irViewsPut [.t 2] [] 1 = true := by kernel_rfl

-- views.Get
-- views.Get: args [51]; lent []; rs [.cell 2 (some (2, true)), .t 3]; loops: 
def irViewsGet : IR := (.seq (.region [
    (.alloc 2 (.pagg [.int .i64 0, .int .u16 0]), none),
    (.p 3 .id [.c (.pv (.int .i64 0))], none)])
 (.seq (.kill [0, 2] [2] (.region [
     (.mv 10 0, none),
     (.call 11 41 [.t 10] [] [11] [], none),
     (.p 4 .id [.t 11], none)]))
  (.seq (.kill [2, 4] [2, 11] (.region [
      (.p 13 .id [.t 4], none),
      (.call 14 42 [.t 13, .c (.pv (.int .i64 2))] [11] [] [], none),
      (.p 12 .id [.t 14], none),
      (.p 15 (.ext 0) [.t 12], none),
      (.p 16 (.ext 1) [.t 12], none),
      (.p 5 .id [.t 15], none),
      (.p 6 .id [.t 16], none)]))
   (.seq (.kill [2, 4, 5] [2, 11] (.region [
       (.p 18 .id [.t 4], none),
       (.call 19 42 [.t 18, .c (.pv (.int .i64 2))] [11] [] [], none),
       (.p 17 .id [.t 19], none),
       (.p 20 (.ext 0) [.t 17], none),
       (.p 21 (.ext 1) [.t 17], none),
       (.p 7 .id [.t 20], none),
       (.p 8 .id [.t 21], none)]))
    (.seq (.seq (.kill [2, 4, 5, 7, 8] [2, 11] (.region [
         (.p 22 .id [.t 8], none),
         (.p 23 (.bin .neq) [.t 22, .c (.pv (.int .i64 0))], none)]))
      (.cond (.t 23)
       (.seq (.kill [2] [2] (.region [
           (.build 24 (.pagg [.int .i64 0, .int .u16 0]) [], none),
           (.store (some (2, true)) (some 2) (.t 2) (.t 24), none),
           (.p 3 .id [.c (.pv (.int .i64 1))], none)]))
        .ret)
       .skip))
     (.seq (.kill [2, 4, 5, 7] [2, 11] (.region [
         (.p 25 .id [.t 5], none),
         (.p 26 (.conv .i64) [.t 25], none),
         (.p 27 .id [.t 7], none),
         (.p 28 (.conv .u16) [.t 27], none),
         (.build 29 (.pagg [.int .i64 0, .int .u16 0]) [(0, 1, .t 26), (1, 1, .t 28)], none),
         (.alloc 9 (.pagg [.int .i64 0, .int .u16 0]), none),
         (.store (some (2, true)) (some 9) (.t 9) (.t 29), none)]))
      (.seq (.seq (.kill [2, 4, 9] [2, 9, 11] (.region [
           (.p 30 .id [.t 4], none),
           (.call 31 47 [.t 30] [11] [] [], none),
           (.p 32 (.bin .neq) [.t 31, .c (.pv (.int .i64 0))], none),
           (.p 33 .id [.t 32], none),
           (.load 34 (some (2, true)) (some 9) (.t 9), some (33, false)),
           (.call 35 50 [.t 34] [] [] [], some (33, false)),
           (.p 36 (.un .not) [.t 35], some (33, false)),
           (.p 37 .pick [.t 33, .c (.pv (.bool true)), .t 36], none)]))
        (.cond (.t 37)
         (.seq (.kill [2] [2] (.region [
             (.build 38 (.pagg [.int .i64 0, .int .u16 0]) [], none),
             (.store (some (2, true)) (some 2) (.t 2) (.t 38), none),
             (.p 3 .id [.c (.pv (.int .i64 2))], none)]))
          .ret)
         .skip))
       (.seq (.kill [2, 9] [2, 9] (.region [
           (.load 39 (some (2, true)) (some 9) (.t 9), none),
           (.store (some (2, true)) (some 2) (.t 2) (.t 39), none),
           (.p 3 .id [.c (.pv (.int .i64 0))], none)]))
        .ret))))))))
theorem okViewsGet : okFn Try.prog Try.f66 irViewsGet [.cell 2 (some (2, true)), .t 3] [] 1 = true := by kernel_rfl

-- consistoryref06.Put
-- consistoryref06.Put: args [24]; lent []; rs [.t 2]; loops: 
def irRef06Put : IR := (.seq (.region [
    (.box 1 (.t 0), none),
    (.p 2 .id [.c (.os 5 1 [])], none)])
 (.seq (.seq (.kill [1] [1] (.region [
      (.load 3 (some (2, true)) (some 1) (.t 1), none),
      (.call 4 48 [.t 3] [] [] [], none),
      (.p 5 (.un .not) [.t 4], none)]))
   (.cond (.t 5)
    (.seq (.kill [] [] (.region [
        (.p 2 .id [.c (.os 5 1 [])], none)]))
     .ret)
    .skip))
  (.seq (.kill [1] [1] (.region [
      (.p 6 (.fieldAddr 0) [.t 1], none),
      (.load 7 none (some 1) (.t 6), none),
      (.p 8 (.conv .u64) [.t 7], none),
      (.call 9 34 [.t 8, .c (.pv (.int .i64 2))] [] [] [], none),
      (.p 10 (.fieldAddr 1) [.t 1], none),
      (.load 11 none (some 1) (.t 10), none),
      (.p 12 (.conv .u64) [.t 11], none),
      (.call 13 34 [.t 12, .c (.pv (.int .i64 2))] [] [] [], none),
      (.call 14 33 [.t 9, .t 13] [] [] [], none),
      (.mv 2 14, none)]))
   .ret)))
theorem okRef06Put : okFn Try.prog Try.f36 irRef06Put [.t 2] [] 1 = true := by kernel_rfl

end Go.Proofs.Ytdbbbaaopngbcaa
