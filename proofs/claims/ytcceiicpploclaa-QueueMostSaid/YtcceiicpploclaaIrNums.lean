/- The abstract code of functions, printed by gen_ir.py out of the program's form in Lean; each is checked against it. -/
import Derived.Test.YtcceiicpploclaaProg
import Derived.Test.YtcceiicpploclaaLibClone
set_option linter.unusedVariables false
set_option linter.unusedSimpArgs false
set_option maxRecDepth 100000
namespace Go.Proofs.Ytcceiicpploclaa
open Go.Abs
-- nums.wide
-- nums.wide: args [3]; lent []; rs [.t 2]; loops: 
def irNumsWide : IR := (.seq (.region [
    (.p 2 .id [.c (.pv (.bool false))], none)])
 (.seq (.kill [0] [] (.region [
     (.p 3 .id [.t 0], none),
     (.p 4 (.bin .eql) [.t 3, .c (.pv (.int .i64 1))], none),
     (.p 5 .id [.t 4], none),
     (.p 6 .id [.t 0], some (5, false)),
     (.p 7 (.bin .eql) [.t 6, .c (.pv (.int .i64 2))], some (5, false)),
     (.p 8 .pick [.t 5, .c (.pv (.bool true)), .t 7], none),
     (.p 9 .id [.t 8], none),
     (.p 10 .id [.t 0], some (9, false)),
     (.p 11 (.bin .eql) [.t 10, .c (.pv (.int .i64 4))], some (9, false)),
     (.p 12 .pick [.t 9, .c (.pv (.bool true)), .t 11], none),
     (.p 13 .id [.t 12], none),
     (.p 14 .id [.t 0], some (13, false)),
     (.p 15 (.bin .eql) [.t 14, .c (.pv (.int .i64 8))], some (13, false)),
     (.p 16 .pick [.t 13, .c (.pv (.bool true)), .t 15], none),
     (.p 2 .id [.t 16], none)]))
  .ret))
theorem okNumsWide : okFn Try.prog Try.f37 irNumsWide [.t 2] [] 1 = true := by kernel_rfl

-- nums.PutFixed
-- nums.PutFixed: args [34, 69, 3]; lent []; rs [.t 6]; loops: L1 keeps [1, 2, 7, 15, 16] []
def irNumsPutFixed_L1 : IR := (.seq (.kill [1, 2, 7, 15, 16] [] (.region [
     (.p 17 (.bin .lss) [.t 16, .t 15], none)]))
  (.seq (.cond (.t 17)
    .skip
    (.exit 0))
   (.seq (.block 1 (.seq (.kill [1, 2, 7, 15, 16] [] (.region [
         (.p 18 .id [.t 16], none),
         (.p 8 .id [.t 18], none)]))
      (.kill [1, 2, 7, 8, 15, 16] [] (.region [
         (.mv 19 7, none),
         (.p 20 .id [.t 1], none),
         (.p 21 .id [.t 2], none),
         (.p 22 (.bin .sub) [.t 21, .c (.pv (.int .i64 1))], none),
         (.p 23 .id [.t 8], none),
         (.p 24 (.bin .sub) [.t 22, .t 23], none),
         (.p 25 (.bin .mul) [.c (.pv (.int .i64 8)), .t 24], none),
         (.p 26 (.bin .shr) [.t 20, .t 25], none),
         (.p 27 (.conv .u8) [.t 26], none),
         (.bslice 28 5 1 1 [.int .u8 0] [(0, .t 27)], none),
         (.app 29 5 1 19 none (.t 28), none),
         (.mv 7 29, none)]))))
    (.kill [1, 2, 7, 15, 16] [] (.region [
       (.p 30 (.bin .add) [.t 16, .c (.pv (.int .i64 1))], none),
       (.p 16 .id [.t 30], none)])))))
def irNumsPutFixed : IR := (.seq (.region [
    (.p 6 .id [.c (.os 5 1 [])], none)])
 (.seq (.kill [0, 1, 2] [] (.region [
     (.mv 9 0, none),
     (.call 10 31 [.t 9] [] [] [], none),
     (.mv 7 10, none)]))
  (.seq (.seq (.kill [1, 2, 7] [] (.region [
       (.p 11 .id [.t 2], none),
       (.call 12 37 [.t 11] [] [] [], none),
       (.p 13 (.un .not) [.t 12], none)]))
    (.cond (.t 13)
     (.seq (.kill [7] [] (.region [
         (.mv 14 7, none),
         (.mv 6 14, none)]))
      .ret)
     .skip))
   (.seq (.seq (.kill [1, 2, 7] [] (.region [
        (.p 15 .id [.t 2], none),
        (.p 16 .id [.c (.pv (.int .i64 0))], none)]))
     (.block 0 (.loop (.kill [1, 2, 7, 15, 16] [] irNumsPutFixed_L1))))
    (.seq (.kill [7] [] (.region [
        (.mv 31 7, none),
        (.mv 6 31, none)]))
     .ret)))))
theorem okNumsPutFixed : okFn Try.prog Try.f35 irNumsPutFixed [.t 6] [] 3 = true := by kernel_rfl

-- nums.PutPacked
-- nums.PutPacked: args [34, 69]; lent []; rs [.t 4]; loops: L1 keeps [1, 5] []
def irNumsPutPacked_L1 : IR := (.seq (.seq (.kill [1, 5] [] (.region [
      (.p 8 .id [.t 1], none),
      (.p 9 (.bin .geq) [.t 8, .c (.pv (.int .u64 128))], none)]))
   (.cond (.t 9)
    .skip
    (.exit 0)))
  (.block 1 (.seq (.kill [1, 5] [] (.region [
       (.mv 10 5, none),
       (.p 11 .id [.t 1], none),
       (.p 12 (.conv .u8) [.t 11], none),
       (.p 13 (.bin .or) [.t 12, .c (.pv (.int .u8 128))], none),
       (.bslice 14 5 1 1 [.int .u8 0] [(0, .t 13)], none),
       (.app 15 5 1 10 none (.t 14), none),
       (.mv 5 15, none)]))
    (.kill [1, 5] [] (.region [
       (.p 16 .id [.t 1], none),
       (.p 17 (.bin .shr) [.t 16, .c (.pv (.int .u64 7))], none),
       (.p 1 .id [.t 17], none)])))))
def irNumsPutPacked : IR := (.seq (.region [
    (.p 4 .id [.c (.os 5 1 [])], none)])
 (.seq (.kill [0, 1] [] (.region [
     (.mv 6 0, none),
     (.call 7 31 [.t 6] [] [] [], none),
     (.mv 5 7, none)]))
  (.seq (.block 0 (.loop (.kill [1, 5] [] irNumsPutPacked_L1)))
   (.seq (.kill [1, 5] [] (.region [
       (.mv 18 5, none),
       (.p 19 .id [.t 1], none),
       (.p 20 (.conv .u8) [.t 19], none),
       (.bslice 21 5 1 1 [.int .u8 0] [(0, .t 20)], none),
       (.app 22 5 1 18 none (.t 21), none),
       (.mv 4 22, none)]))
    .ret))))
theorem okNumsPutPacked : okFn Try.prog Try.f34 irNumsPutPacked [.t 4] [] 2 = true := by kernel_rfl

-- nums.Fold
-- nums.Fold: args [2]; lent []; rs [.t 2]; loops: 
def irNumsFold : IR := (.seq (.region [
    (.p 2 .id [.c (.pv (.int .u64 0))], none)])
 (.seq (.kill [0] [] (.region [
     (.p 3 .id [.t 0], none),
     (.p 4 (.conv .u64) [.t 3], none),
     (.p 5 (.bin .shl) [.t 4, .c (.pv (.int .u64 1))], none),
     (.p 6 .id [.t 0], none),
     (.p 7 (.bin .shr) [.t 6, .c (.pv (.int .u64 63))], none),
     (.p 8 (.conv .u64) [.t 7], none),
     (.p 9 (.bin .xor) [.t 5, .t 8], none),
     (.p 2 .id [.t 9], none)]))
  .ret))
theorem okNumsFold : okFn Try.prog Try.f38 irNumsFold [.t 2] [] 1 = true := by kernel_rfl

-- nums.PutFolded
-- nums.PutFolded: args [34, 2]; lent []; rs [.t 4]; loops: 
def irNumsPutFolded : IR := (.seq (.region [
    (.p 4 .id [.c (.os 5 1 [])], none)])
 (.seq (.kill [0, 1] [] (.region [
     (.mv 5 0, none),
     (.p 6 .id [.t 1], none),
     (.call 7 38 [.t 6] [] [] [], none),
     (.call 8 34 [.t 5, .t 7] [] [] [], none),
     (.mv 4 8, none)]))
  .ret))
theorem okNumsPutFolded : okFn Try.prog Try.f36 irNumsPutFolded [.t 4] [] 2 = true := by kernel_rfl

-- nums.PutText
-- nums.PutText: args [34, 34]; lent []; rs [.t 4]; loops: 
def irNumsPutText : IR := (.seq (.region [
    (.p 4 .id [.c (.os 5 1 [])], none)])
 (.seq (.kill [0, 1] [] (.region [
     (.mv 5 0, none),
     (.p 6 .id [.t 1], none),
     (.p 7 (.len none) [.t 6], none),
     (.p 8 (.conv .u64) [.t 7], none),
     (.call 9 34 [.t 5, .t 8] [] [] [], none),
     (.p 10 .id [.t 1], none),
     (.app 11 5 1 9 none (.t 10), none),
     (.mv 4 11, none)]))
  .ret))
theorem okNumsPutText : okFn Try.prog Try.f29 irNumsPutText [.t 4] [] 2 = true := by kernel_rfl

-- consistoryref01.Same
-- consistoryref01.Same: args [34, 34]; lent []; rs [.t 4]; loops: L1 keeps [0, 1, 5] []
def irRef01Same_L1 : IR := (.seq (.seq (.kill [0, 1, 5] [] (.region [
      (.p 11 .id [.t 5], none),
      (.p 12 .id [.t 0], none),
      (.p 13 (.len none) [.t 12], none),
      (.p 14 (.bin .lss) [.t 11, .t 13], none)]))
   (.cond (.t 14)
    .skip
    (.exit 0)))
  (.seq (.block 1 (.seq (.kill [0, 1, 5] [] (.region [
        (.p 17 .id [.t 0], none),
        (.p 18 .id [.t 5], none),
        (.p 19 (.indexAddr none 1) [.t 17, .t 18], none),
        (.load 20 none (some 9999) (.t 19), none),
        (.p 21 .id [.t 1], none),
        (.p 22 .id [.t 5], none),
        (.p 23 (.indexAddr none 1) [.t 21, .t 22], none),
        (.load 24 none (some 9999) (.t 23), none),
        (.p 25 (.bin .neq) [.t 20, .t 24], none)]))
     (.cond (.t 25)
      (.seq (.kill [] [] (.region [
          (.p 4 .id [.c (.pv (.bool false))], none)]))
       .ret)
      .skip)))
   (.kill [0, 1, 5] [] (.region [
      (.p 15 .id [.t 5], none),
      (.p 16 (.bin .add) [.t 15, .c (.pv (.int .i64 1))], none),
      (.p 5 .id [.t 16], none)]))))
def irRef01Same : IR := (.seq (.region [
    (.p 4 .id [.c (.pv (.bool false))], none)])
 (.seq (.seq (.kill [0, 1] [] (.region [
      (.p 6 .id [.t 0], none),
      (.p 7 (.len none) [.t 6], none),
      (.p 8 .id [.t 1], none),
      (.p 9 (.len none) [.t 8], none),
      (.p 10 (.bin .neq) [.t 7, .t 9], none)]))
   (.cond (.t 10)
    (.seq (.kill [] [] (.region [
        (.p 4 .id [.c (.pv (.bool false))], none)]))
     .ret)
    .skip))
  (.seq (.seq (.kill [0, 1] [] (.region [
       (.p 5 .id [.c (.pv (.int .i64 0))], none)]))
    (.block 0 (.loop (.kill [0, 1, 5] [] irRef01Same_L1))))
   (.seq (.kill [] [] (.region [
       (.p 4 .id [.c (.pv (.bool true))], none)]))
    .ret))))
theorem okRef01Same : okFn Try.prog Try.f27 irRef01Same [.t 4] [] 2 = true := by kernel_rfl

end Go.Proofs.Ytcceiicpploclaa
