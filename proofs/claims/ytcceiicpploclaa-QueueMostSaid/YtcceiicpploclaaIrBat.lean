/- The abstract code of functions, printed by gen_ir.py out of the program's form in Lean; each is checked against it. -/
import Derived.Test.YtcceiicpploclaaProg
import Derived.Test.YtcceiicpploclaaIrReqs
set_option linter.unusedVariables false
set_option linter.unusedSimpArgs false
set_option maxRecDepth 100000
namespace Go.Proofs.Ytcceiicpploclaa
open Go.Abs
-- consistoryref07.FormedBatch
-- consistoryref07.FormedBatch: args [41]; lent []; rs [.t 2]; loops: L2 keeps [0, 3, 4] []; L1 keeps [0, 3] []
def irRef07FormedBatch_L2 : IR := (.seq (.seq (.kill [0, 3, 4] [] (.region [
      (.p 25 .id [.t 4], none),
      (.p 26 .id [.t 3], none),
      (.p 27 (.bin .lss) [.t 25, .t 26], none)]))
   (.cond (.t 27)
    .skip
    (.exit 2)))
  (.seq (.block 3 (.seq (.kill [0, 3, 4] [] (.region [
        (.p 30 .id [.t 0], none),
        (.p 31 .id [.t 4], none),
        (.p 32 (.indexAddr none 7) [.t 30, .t 31], none),
        (.p 33 (.fieldAddr 0) [.t 32], none),
        (.load 34 none (some 9999) (.t 33), none),
        (.p 35 .id [.t 0], none),
        (.p 36 .id [.t 3], none),
        (.p 37 (.indexAddr none 7) [.t 35, .t 36], none),
        (.p 38 (.fieldAddr 0) [.t 37], none),
        (.load 39 none (some 9999) (.t 38), none),
        (.p 40 (.bin .eql) [.t 34, .t 39], none),
        (.p 41 .id [.t 40], none),
        (.p 42 .id [.t 0], some (41, true)),
        (.p 43 .id [.t 4], some (41, true)),
        (.p 44 (.indexAddr none 7) [.t 42, .t 43], some (41, true)),
        (.p 45 (.fieldAddr 1) [.t 44], some (41, true)),
        (.load 46 none (some 9999) (.t 45), some (41, true)),
        (.p 47 .id [.t 0], some (41, true)),
        (.p 48 .id [.t 3], some (41, true)),
        (.p 49 (.indexAddr none 7) [.t 47, .t 48], some (41, true)),
        (.p 50 (.fieldAddr 1) [.t 49], some (41, true)),
        (.load 51 none (some 9999) (.t 50), some (41, true)),
        (.p 52 (.bin .geq) [.t 46, .t 51], some (41, true)),
        (.p 53 .pick [.t 41, .t 52, .c (.pv (.bool false))], none)]))
     (.cond (.t 53)
      (.seq (.kill [] [] (.region [
          (.p 2 .id [.c (.pv (.bool false))], none)]))
       .ret)
      .skip)))
   (.kill [0, 3, 4] [] (.region [
      (.p 28 .id [.t 4], none),
      (.p 29 (.bin .add) [.t 28, .c (.pv (.int .i64 1))], none),
      (.p 4 .id [.t 29], none)]))))
def irRef07FormedBatch_L1 : IR := (.seq (.seq (.kill [0, 3] [] (.region [
      (.p 13 .id [.t 3], none),
      (.p 14 .id [.t 0], none),
      (.p 15 (.len none) [.t 14], none),
      (.p 16 (.bin .lss) [.t 13, .t 15], none)]))
   (.cond (.t 16)
    .skip
    (.exit 0)))
  (.seq (.block 1 (.seq (.seq (.kill [0, 3] [] (.region [
         (.p 19 .id [.t 0], none),
         (.p 20 .id [.t 3], none),
         (.p 21 (.indexAddr none 7) [.t 19, .t 20], none),
         (.load 22 (some (7, true)) (some 9999) (.t 21), none),
         (.call 23 26 [.t 22] [] [] [], none),
         (.p 24 (.un .not) [.t 23], none)]))
      (.cond (.t 24)
       (.seq (.kill [] [] (.region [
           (.p 2 .id [.c (.pv (.bool false))], none)]))
        .ret)
       .skip))
     (.seq (.kill [0, 3] [] (.region [
         (.p 4 .id [.c (.pv (.int .i64 0))], none)]))
      (.block 2 (.loop (.kill [0, 3, 4] [] irRef07FormedBatch_L2))))))
   (.kill [0, 3] [] (.region [
      (.p 17 .id [.t 3], none),
      (.p 18 (.bin .add) [.t 17, .c (.pv (.int .i64 1))], none),
      (.p 3 .id [.t 18], none)]))))
def irRef07FormedBatch : IR := (.seq (.region [
    (.p 2 .id [.c (.pv (.bool false))], none)])
 (.seq (.seq (.kill [0] [] (.region [
      (.p 5 .id [.t 0], none),
      (.p 6 (.len none) [.t 5], none),
      (.p 7 (.bin .lss) [.t 6, .c (.pv (.int .i64 1))], none),
      (.p 8 .id [.t 7], none),
      (.p 9 .id [.t 0], some (8, false)),
      (.p 10 (.len none) [.t 9], some (8, false)),
      (.p 11 (.bin .gtr) [.t 10, .c (.pv (.int .i64 4))], some (8, false)),
      (.p 12 .pick [.t 8, .c (.pv (.bool true)), .t 11], none)]))
   (.cond (.t 12)
    (.seq (.kill [] [] (.region [
        (.p 2 .id [.c (.pv (.bool false))], none)]))
     .ret)
    .skip))
  (.seq (.seq (.kill [0] [] (.region [
       (.p 3 .id [.c (.pv (.int .i64 0))], none)]))
    (.block 0 (.loop (.kill [0, 3] [] irRef07FormedBatch_L1))))
   (.seq (.kill [] [] (.region [
       (.p 2 .id [.c (.pv (.bool true))], none)]))
    .ret))))
theorem okRef07FormedBatch : okFn Try.prog Try.f14 irRef07FormedBatch [.t 2] [] 1 = true := by kernel_rfl

-- consistoryref07.SameAll
-- consistoryref07.SameAll: args [41, 41]; lent []; rs [.t 4]; loops: L1 keeps [0, 1, 5] []
def irRef07SameAll_L1 : IR := (.seq (.seq (.kill [0, 1, 5] [] (.region [
      (.p 11 .id [.t 5], none),
      (.p 12 .id [.t 0], none),
      (.p 13 (.len none) [.t 12], none),
      (.p 14 (.bin .lss) [.t 11, .t 13], none)]))
   (.cond (.t 14)
    .skip
    (.exit 0)))
  (.seq (.block 1 (.seq (.kill [0, 1, 5] [] (.region [
        (.p 17 .id [.t 0], none),
        (.p 18 .id [.t 5], none),
        (.p 19 (.indexAddr none 7) [.t 17, .t 18], none),
        (.load 20 (some (7, true)) (some 9999) (.t 19), none),
        (.p 21 .id [.t 1], none),
        (.p 22 .id [.t 5], none),
        (.p 23 (.indexAddr none 7) [.t 21, .t 22], none),
        (.load 24 (some (7, true)) (some 9999) (.t 23), none),
        (.call 25 16 [.t 20, .t 24] [] [] [], none),
        (.p 26 (.un .not) [.t 25], none)]))
     (.cond (.t 26)
      (.seq (.kill [] [] (.region [
          (.p 4 .id [.c (.pv (.bool false))], none)]))
       .ret)
      .skip)))
   (.kill [0, 1, 5] [] (.region [
      (.p 15 .id [.t 5], none),
      (.p 16 (.bin .add) [.t 15, .c (.pv (.int .i64 1))], none),
      (.p 5 .id [.t 16], none)]))))
def irRef07SameAll : IR := (.seq (.region [
    (.p 4 .id [.c (.pv (.bool false))], none)])
 (.seq (.seq (.kill [0, 1] [] (.region [
      (.p 6 .id [.t 0], none),
      (.p 7 (.len none) [.t 6], none),
      (.p 8 .id [.t 1], none),
      (.p 9 (.len none) [.t 8], none),
      (.p 10 (.bin .neq) [.t 7, .t 9], none)]))
   (.cond (.t 10)
    (.seq (.kill [] [] (.region [
        (.p 4 .id [.c (.pv (.bool false))], none)]))
     .ret)
    .skip))
  (.seq (.seq (.kill [0, 1] [] (.region [
       (.p 5 .id [.c (.pv (.int .i64 0))], none)]))
    (.block 0 (.loop (.kill [0, 1, 5] [] irRef07SameAll_L1))))
   (.seq (.kill [] [] (.region [
       (.p 4 .id [.c (.pv (.bool true))], none)]))
    .ret))))
theorem okRef07SameAll : okFn Try.prog Try.f18 irRef07SameAll [.t 4] [] 2 = true := by kernel_rfl

end Go.Proofs.Ytcceiicpploclaa
