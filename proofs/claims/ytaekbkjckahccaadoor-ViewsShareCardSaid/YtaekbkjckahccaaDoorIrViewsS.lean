/- The abstract code of functions, printed by gen_ir.py out of the program's form in Lean; each is checked against it. -/
import Derived.Test.YtaekbkjckahccaaDoorProg
import Derived.Test.YtaekbkjckahccaaDoorIrViews
set_option linter.unusedVariables false
set_option linter.unusedSimpArgs false
set_option maxRecDepth 100000
namespace Go.Proofs.YtaekbkjckahccaaDoor
open Go.Abs
-- consistorylaw06.ViewsShare$1
-- consistorylaw06.ViewsShare$1: args [22]; lent []; rs [.t 2]; loops: 
def irLaw06ViewsShare1 : IR := (.seq (.region [
    (.p 2 .id [.c (.pv (.int .i64 0))], none)])
 (.seq (.kill [0] [] (.region [
     (.p 3 .id [.t 0], none),
     (.build 4 (.pagg [.int .i64 0, .int .u16 0]) [(1, 1, .t 3)], none),
     (.call 5 15 [.t 4] [] [] [], none),
     (.p 6 (.len none) [.t 5], none),
     (.p 2 .id [.t 6], none)]))
  .ret))
theorem okLaw06ViewsShare1 : okFn Tryd.prog Tryd.f14 irLaw06ViewsShare1 [.t 2] [] 1 = true := by kernel_rfl

-- consistorylaw06.ViewsShare
-- consistorylaw06.ViewsShare: args [24, 22, 22]; lent []; rs [.t 6]; loops: 
def irLaw06ViewsShare : IR := (.seq (.region [
    (.box 3 (.t 0), none),
    (.p 6 .id [.c (.pv (.bool false))], none)])
 (.seq (.seq (.kill [1, 2, 3] [3] (.region [
      (.call 11 8 [] [] [] [], none),
      (.p 12 (.un .not) [.t 11], none)]))
   (.cond (.t 12)
    (.seq (.kill [] [] (.region [
        (.p 6 .id [.c (.pv (.bool false))], none)]))
     .ret)
    .skip))
  (.seq (.seq (.kill [1, 2, 3] [3] (.region [
       (.load 13 (some (2, true)) (some 3) (.t 3), none),
       (.call 14 9 [.t 13] [] [] [], none),
       (.p 15 (.un .not) [.t 14], none)]))
    (.cond (.t 15)
     (.seq (.kill [3] [3] (.region [
         (.load 16 (some (2, true)) (some 3) (.t 3), none),
         (.call 17 13 [.t 16] [] [] [], none),
         (.p 18 (.un .not) [.t 17], none),
         (.p 6 .id [.t 18], none)]))
      .ret)
     .skip))
   (.seq (.kill [1, 2, 3] [3] (.region [
       (.p 19 .id [.t 1], none),
       (.p 20 (.fieldAddr 1) [.t 3], none),
       (.load 21 none (some 3) (.t 20), none),
       (.p 22 (.bin .and) [.t 19, .t 21], none),
       (.p 23 .id [.t 2], none),
       (.p 24 (.fieldAddr 1) [.t 3], none),
       (.load 25 none (some 3) (.t 24), none),
       (.p 26 (.bin .and) [.t 23, .t 25], none),
       (.p 7 .id [.t 22], none),
       (.p 8 .id [.t 26], none)]))
    (.seq (.kill [3, 7, 8] [3] (.region [
        (.p 9 .id [.c (.fn 14)], none)]))
     (.seq (.kill [3, 7, 8, 9] [3] (.region [
         (.load 27 (some (2, true)) (some 3) (.t 3), none),
         (.call 28 16 [.t 27] [] [] [], none),
         (.p 10 .id [.t 28], none)]))
      (.seq (.seq (.kill [3, 7, 8, 9, 10] [3] (.region [
           (.p 29 .id [.t 9], none),
           (.p 30 .id [.t 7], none),
           (.callv 31 29 14 [.t 30], none),
           (.load 32 (some (2, true)) (some 3) (.t 3), none),
           (.call 33 17 [.t 32] [] [] [], none),
           (.p 34 (.bin .geq) [.t 31, .t 33], none),
           (.p 35 .id [.t 34], none),
           (.p 36 .id [.t 9], some (35, true)),
           (.p 37 .id [.t 8], some (35, true)),
           (.callv 38 36 14 [.t 37], some (35, true)),
           (.load 39 (some (2, true)) (some 3) (.t 3), some (35, true)),
           (.call 40 17 [.t 39] [] [] [], some (35, true)),
           (.p 41 (.bin .geq) [.t 38, .t 40], some (35, true)),
           (.p 42 .pick [.t 35, .t 41, .c (.pv (.bool false))], none),
           (.p 43 .id [.t 42], none),
           (.p 44 .id [.t 9], some (43, true)),
           (.p 45 .id [.t 7], some (43, true)),
           (.p 46 .id [.t 8], some (43, true)),
           (.p 47 (.bin .and) [.t 45, .t 46], some (43, true)),
           (.callv 48 44 14 [.t 47], some (43, true)),
           (.p 49 .id [.t 10], some (43, true)),
           (.p 50 (.bin .leq) [.t 48, .t 49], some (43, true)),
           (.p 51 .pick [.t 43, .t 50, .c (.pv (.bool false))], none)]))
        (.cond (.t 51)
         (.seq (.kill [] [] (.region [
             (.p 6 .id [.c (.pv (.bool false))], none)]))
          .ret)
         .skip))
       (.seq (.seq (.kill [3, 7, 8, 9, 10] [3] (.region [
            (.p 52 .id [.t 9], none),
            (.p 53 .id [.t 7], none),
            (.callv 54 52 14 [.t 53], none),
            (.load 55 (some (2, true)) (some 3) (.t 3), none),
            (.call 56 17 [.t 55] [] [] [], none),
            (.p 57 (.bin .geq) [.t 54, .t 56], none),
            (.p 58 .id [.t 57], none),
            (.p 59 .id [.t 9], some (58, true)),
            (.p 60 .id [.t 8], some (58, true)),
            (.callv 61 59 14 [.t 60], some (58, true)),
            (.load 62 (some (2, true)) (some 3) (.t 3), some (58, true)),
            (.call 63 18 [.t 62] [] [] [], some (58, true)),
            (.p 64 (.bin .geq) [.t 61, .t 63], some (58, true)),
            (.p 65 .pick [.t 58, .t 64, .c (.pv (.bool false))], none),
            (.p 66 .id [.t 65], none),
            (.p 67 .id [.t 9], some (66, true)),
            (.p 68 .id [.t 7], some (66, true)),
            (.p 69 .id [.t 8], some (66, true)),
            (.p 70 (.bin .and) [.t 68, .t 69], some (66, true)),
            (.callv 71 67 14 [.t 70], some (66, true)),
            (.p 72 .id [.t 10], some (66, true)),
            (.p 73 (.bin .leq) [.t 71, .t 72], some (66, true)),
            (.p 74 .pick [.t 66, .t 73, .c (.pv (.bool false))], none)]))
         (.cond (.t 74)
          (.seq (.kill [] [] (.region [
              (.p 6 .id [.c (.pv (.bool false))], none)]))
           .ret)
          .skip))
        (.seq (.kill [3, 9, 10] [3] (.region [
            (.load 75 (some (2, true)) (some 3) (.t 3), none),
            (.call 76 18 [.t 75] [] [] [], none),
            (.load 77 (some (2, true)) (some 3) (.t 3), none),
            (.call 78 17 [.t 77] [] [] [], none),
            (.p 79 (.bin .geq) [.t 76, .t 78], none),
            (.p 80 .id [.t 79], none),
            (.load 81 (some (2, true)) (some 3) (.t 3), some (80, true)),
            (.call 82 19 [.t 81] [] [] [], some (80, true)),
            (.p 83 .id [.t 10], some (80, true)),
            (.p 84 (.bin .add) [.t 83, .c (.pv (.int .i64 1))], some (80, true)),
            (.p 85 (.bin .eql) [.t 82, .t 84], some (80, true)),
            (.p 86 .pick [.t 80, .t 85, .c (.pv (.bool false))], none),
            (.p 87 .id [.t 86], none),
            (.p 88 .id [.t 10], some (87, true)),
            (.p 89 (.bin .mul) [.c (.pv (.int .i64 3)), .t 88], some (87, true)),
            (.p 90 (.bin .add) [.t 89, .c (.pv (.int .i64 1))], some (87, true)),
            (.p 91 .id [.t 9], some (87, true)),
            (.p 92 (.fieldAddr 1) [.t 3], some (87, true)),
            (.load 93 none (some 3) (.t 92), some (87, true)),
            (.callv 94 91 14 [.t 93], some (87, true)),
            (.p 95 (.bin .leq) [.t 90, .t 94], some (87, true)),
            (.p 96 .pick [.t 87, .t 95, .c (.pv (.bool false))], none),
            (.p 6 .id [.t 96], none)]))
         .ret)))))))))
theorem okLaw06ViewsShare : okFn Tryd.prog Tryd.f4 irLaw06ViewsShare [.t 6] [] 3 = true := by kernel_rfl

end Go.Proofs.YtaekbkjckahccaaDoor
