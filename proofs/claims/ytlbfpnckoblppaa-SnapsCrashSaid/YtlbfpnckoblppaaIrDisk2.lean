/- The abstract code of functions, printed by gen_ir.py out of the program's form in Lean; each is checked against it. -/
import Derived.Test.YtlbfpnckoblppaaProg
import Derived.Test.YtlbfpnckoblppaaIrDisk
set_option linter.unusedVariables false
set_option linter.unusedSimpArgs false
set_option maxRecDepth 100000
namespace Go.Proofs.Ytlbfpnckoblppaa
open Go.Abs
-- disk.Disk.Crash
-- disk.Disk.Crash: args [24, 44]; lent [0, None, None]; rs []; loops: L1 keeps [0, 3, 13, 14, 15] [3, 1000, 1001, 1002]
def irDiskDiskCrash_L1 : IR := (.seq (.kill [0, 3, 13, 14, 15] [3, 1000, 1001, 1002] (.region [
     (.p 16 (.bin .lss) [.t 15, .t 14], none)]))
  (.seq (.cond (.t 16)
    .skip
    (.exit 0))
   (.seq (.block 1 (.seq (.kill [0, 3, 13, 14, 15] [3, 1000, 1001, 1002] (.region [
         (.p 17 .id [.t 15], none),
         (.p 18 (.indexAddr none 4) [.t 13, .t 15], none),
         (.load 19 (some (4, true)) (some 9999) (.t 18), none),
         (.alloc 5 (.agg [.pv (.int .i64 0), .pv (.str .empty), .pv (.str .empty), .os 5 1 []]), none),
         (.p 4 .id [.t 17], none),
         (.store (some (4, true)) (some 5) (.t 5) (.t 19), none)]))
      (.seq (.kill [0, 3, 4, 5, 13, 14, 15] [3, 5, 1000, 1001, 1002] (.region [
          (.load 21 (some (4, true)) (some 5) (.t 5), none),
          (.p 22 .id [.t 4], none),
          (.load 23 (some (3, true)) (some 3) (.t 3), none),
          (.call 24 41 [.t 21, .t 22, .t 23] [] [] [], none),
          (.p 20 .id [.t 24], none),
          (.p 25 (.ext 0) [.t 20], none),
          (.p 26 (.ext 1) [.t 20], none),
          (.alloc 6 (.agg [.pv (.int .i64 0), .pv (.str .empty), .pv (.str .empty), .os 5 1 []]), none),
          (.store (some (4, true)) (some 6) (.t 6) (.t 25), none),
          (.p 7 .id [.t 26], none)]))
       (.seq (.kill [0, 3, 6, 7, 13, 14, 15] [3, 6, 1000, 1001, 1002] (.region [
           (.p 27 .id [.t 7], none)]))
        (.cond (.t 27)
         (.kill [0, 3, 6, 13, 14, 15] [3, 6, 1000, 1001, 1002] (.region [
            (.p 28 .id [.t 0], none),
            (.p 29 .nilc [.t 28], none),
            (.p 30 (.fieldAddr 1) [.t 29], none),
            (.load 31 none (some 1000) (.t 30), none),
            (.load 32 (some (4, true)) (some 6) (.t 6), none),
            (.call 33 42 [.t 31, .t 32] [1001] [] [], none)]))
         .skip)))))
    (.kill [0, 3, 13, 14, 15] [3, 1000, 1001, 1002] (.region [
       (.p 34 (.bin .add) [.t 15, .c (.pv (.int .i64 1))], none),
       (.p 15 .id [.t 34], none)])))))
def irDiskDiskCrash : IR := (.seq (.region [
    (.box 3 (.t 1), none)])
 (.seq (.seq (.kill [0, 3] [3, 1000, 1001, 1002] (.region [
      (.p 8 .id [.t 0], none),
      (.p 9 (.peq false) [.t 8, .c (.pv .nilp)], none)]))
   (.cond (.t 9)
    .ret
    .skip))
  (.seq (.seq (.kill [0, 3] [3, 1000, 1001, 1002] (.region [
       (.p 10 .id [.t 0], none),
       (.p 11 .nilc [.t 10], none),
       (.p 12 (.fieldAddr 3) [.t 11], none),
       (.load 13 none (some 1000) (.t 12), none),
       (.p 14 (.len none) [.t 13], none),
       (.p 15 .id [.c (.pv (.int .i64 0))], none)]))
    (.block 0 (.loop (.kill [0, 3, 13, 14, 15] [3, 1000, 1001, 1002] irDiskDiskCrash_L1))))
   (.seq (.kill [0] [1000, 1001, 1002] (.region [
       (.p 35 .id [.t 0], none),
       (.call 36 39 [.t 35] [1000, 1001, 1002] [36] [], none)]))
    (.kill [0] [36, 1000, 1001, 1002] (.region [
       (.p 37 .id [.t 0], none),
       (.p 38 .id [.t 0], none),
       (.p 39 .nilc [.t 37], none),
       (.p 40 (.fieldAddr 4) [.t 39], none),
       (.store none (some 1000) (.t 40) (.c (.pv (.int .i64 (-1)))), none),
       (.p 41 .nilc [.t 38], none),
       (.p 42 (.fieldAddr 5) [.t 41], none),
       (.store none (some 1000) (.t 42) (.c (.pv (.bool false))), none)]))))))
theorem okDiskDiskCrash : okFn Try.prog Try.f21 irDiskDiskCrash [] [36] 2 = true := by kernel_rfl

-- disk.Disk.Pending
-- disk.Disk.Pending: args [24]; lent [0, None, None]; rs [.t 2]; loops: 
def irDiskDiskPending : IR := (.seq (.region [
    (.p 2 .id [.c (.pv (.int .i64 0))], none)])
 (.seq (.seq (.kill [0] [1000, 1001, 1002] (.region [
      (.p 3 .id [.t 0], none),
      (.p 4 (.peq false) [.t 3, .c (.pv .nilp)], none)]))
   (.cond (.t 4)
    (.seq (.kill [0] [1000, 1001, 1002] (.region [
        (.p 2 .id [.c (.pv (.int .i64 0))], none)]))
     .ret)
    .skip))
  (.seq (.kill [0] [1000, 1001, 1002] (.region [
      (.p 5 .id [.t 0], none),
      (.p 6 .nilc [.t 5], none),
      (.p 7 (.fieldAddr 3) [.t 6], none),
      (.load 8 none (some 1000) (.t 7), none),
      (.p 9 (.len none) [.t 8], none),
      (.p 2 .id [.t 9], none)]))
   .ret)))
theorem okDiskDiskPending : okFn Try.prog Try.f18 irDiskDiskPending [.t 2] [] 1 = true := by kernel_rfl

-- disk.left
-- disk.left: args [61, 3, 44]; lent []; rs [.cell 6 (some (4, true)), .t 7]; loops: 
def irDiskLeft : IR := (.seq (.region [
    (.box 3 (.t 0), none),
    (.box 5 (.t 2), none),
    (.alloc 6 (.agg [.pv (.int .i64 0), .pv (.str .empty), .pv (.str .empty), .os 5 1 []]), none),
    (.p 7 .id [.c (.pv (.bool false))], none)])
 (.seq (.seq (.kill [1, 3, 5, 6] [3, 5, 6] (.region [
      (.p 8 .id [.t 1], none),
      (.p 9 (.fieldAddr 1) [.t 5], none),
      (.load 10 none (some 5) (.t 9), none),
      (.p 11 (.bin .eql) [.t 8, .t 10], none),
      (.p 12 .id [.t 11], none),
      (.p 13 (.fieldAddr 0) [.t 3], some (12, true)),
      (.load 14 none (some 3) (.t 13), some (12, true)),
      (.p 15 (.bin .eql) [.t 14, .c (.pv (.int .i64 1))], some (12, true)),
      (.p 16 .id [.t 15], some (12, true)),
      (.p 17 (.fieldAddr 0) [.t 3], some (16, false)),
      (.load 18 none (some 3) (.t 17), some (16, false)),
      (.p 19 (.bin .eql) [.t 18, .c (.pv (.int .i64 2))], some (16, false)),
      (.p 20 .pick [.t 16, .c (.pv (.bool true)), .t 19], some (12, true)),
      (.p 21 .pick [.t 12, .t 20, .c (.pv (.bool false))], none)]))
   (.cond (.t 21)
    (.seq (.kill [3, 5, 6] [3, 5, 6] (.region [
        (.p 22 (.fieldAddr 3) [.t 3], none),
        (.load 23 none (some 3) (.t 22), none),
        (.p 24 (.fieldAddr 2) [.t 5], none),
        (.load 25 none (some 5) (.t 24), none),
        (.p 26 (.fieldAddr 3) [.t 3], none),
        (.load 27 none (some 3) (.t 26), none),
        (.p 28 (.len none) [.t 27], none),
        (.p 29 (.mm false) [.t 25, .t 28], none),
        (.p 30 (.mm true) [.c (.pv (.int .i64 0)), .t 29], none),
        (.p 31 (.slice none 1 false true) [.t 23, .t 30], none),
        (.p 32 (.fieldAddr 3) [.t 3], none),
        (.store none (some 3) (.t 32) (.t 31), none)]))
     (.seq (.kill [3, 6] [3, 6] (.region [
         (.load 33 (some (4, true)) (some 3) (.t 3), none),
         (.store (some (4, true)) (some 6) (.t 6) (.t 33), none),
         (.p 7 .id [.c (.pv (.bool true))], none)]))
      .ret))
    .skip))
  (.seq (.kill [1, 3, 5, 6] [3, 5, 6] (.region [
      (.load 34 (some (4, true)) (some 3) (.t 3), none),
      (.p 35 (.fieldAddr 0) [.t 5], none),
      (.load 36 none (some 5) (.t 35), none),
      (.p 37 .id [.t 1], none),
      (.p 38 (.bin .rem) [.t 37, .c (.pv (.int .i64 64))], none),
      (.p 39 (.bin .shr) [.t 36, .t 38], none),
      (.p 40 (.bin .and) [.t 39, .c (.pv (.int .u64 1))], none),
      (.p 41 (.bin .neq) [.t 40, .c (.pv (.int .u64 0))], none),
      (.store (some (4, true)) (some 6) (.t 6) (.t 34), none),
      (.p 7 .id [.t 41], none)]))
   .ret)))
theorem okDiskLeft : okFn Try.prog Try.f41 irDiskLeft [.cell 6 (some (4, true)), .t 7] [] 3 = true := by kernel_rfl

-- consistoryref12.Told
-- consistoryref12.Told: args [22]; lent []; rs [.t 2]; loops: 
def irRef12Told : IR := (.seq (.region [
    (.p 2 .id [.c (.os 5 1 [])], none)])
 (.seq (.kill [0] [] (.region [
     (.mv 5 0, none),
     (.call 6 34 [.t 5] [] [] [], none),
     (.mv 3 6, none)]))
  (.seq (.kill [3] [] (.region [
      (.p 7 .id [.t 3], none),
      (.call 8 36 [.t 7] [] [] [], none),
      (.call 9 35 [.t 8] [] [] [], none),
      (.mv 4 9, none)]))
   (.seq (.kill [3, 4] [] (.region [
       (.mv 10 3, none),
       (.mv 11 4, none),
       (.p 12 (.slice none 1 false true) [.t 11, .c (.pv (.int .i64 8))], none),
       (.app 13 5 1 10 none (.t 12), none),
       (.mv 3 13, none)]))
    (.seq (.kill [3] [] (.region [
        (.mv 14 3, none),
        (.mv 2 14, none)]))
     .ret)))))
theorem okRef12Told : okFn Try.prog Try.f16 irRef12Told [.t 2] [] 1 = true := by kernel_rfl

-- consistoryref12.Named
-- consistoryref12.Named: args [9]; lent []; rs [.t 2]; loops: L1 keeps [0, 3] []
def irRef12Named_L1 : IR := (.seq (.seq (.kill [0, 3] [] (.region [
      (.p 4 .id [.t 3], none),
      (.p 5 .id [.t 0], none),
      (.p 6 .slen [.t 5], none),
      (.p 7 (.bin .lss) [.t 4, .t 6], none)]))
   (.cond (.t 7)
    .skip
    (.exit 0)))
  (.seq (.block 1 (.seq (.kill [0, 3] [] (.region [
        (.p 10 .id [.t 0], none),
        (.p 11 .id [.t 3], none),
        (.p 12 .sidx [.t 10, .t 11], none),
        (.p 13 (.bin .lss) [.t 12, .c (.pv (.int .u8 97))], none),
        (.p 14 .id [.t 13], none),
        (.p 15 .id [.t 0], some (14, false)),
        (.p 16 .id [.t 3], some (14, false)),
        (.p 17 .sidx [.t 15, .t 16], some (14, false)),
        (.p 18 (.bin .gtr) [.t 17, .c (.pv (.int .u8 122))], some (14, false)),
        (.p 19 .pick [.t 14, .c (.pv (.bool true)), .t 18], none)]))
     (.cond (.t 19)
      (.seq (.kill [] [] (.region [
          (.p 2 .id [.c (.pv (.bool false))], none)]))
       .ret)
      .skip)))
   (.kill [0, 3] [] (.region [
      (.p 8 .id [.t 3], none),
      (.p 9 (.bin .add) [.t 8, .c (.pv (.int .i64 1))], none),
      (.p 3 .id [.t 9], none)]))))
def irRef12Named : IR := (.seq (.region [
    (.p 2 .id [.c (.pv (.bool false))], none)])
 (.seq (.seq (.kill [0] [] (.region [
      (.p 3 .id [.c (.pv (.int .i64 0))], none)]))
   (.block 0 (.loop (.kill [0, 3] [] irRef12Named_L1))))
  (.seq (.kill [0] [] (.region [
      (.p 20 .id [.t 0], none),
      (.p 21 .slen [.t 20], none),
      (.p 22 (.bin .geq) [.t 21, .c (.pv (.int .i64 1))], none),
      (.p 23 .id [.t 22], none),
      (.p 24 .id [.t 0], some (23, true)),
      (.p 25 .slen [.t 24], some (23, true)),
      (.p 26 (.bin .leq) [.t 25, .c (.pv (.int .i64 16))], some (23, true)),
      (.p 27 .pick [.t 23, .t 26, .c (.pv (.bool false))], none),
      (.p 2 .id [.t 27], none)]))
   .ret)))
theorem okRef12Named : okFn Try.prog Try.f12 irRef12Named [.t 2] [] 1 = true := by kernel_rfl

end Go.Proofs.Ytlbfpnckoblppaa
