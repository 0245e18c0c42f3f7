/- The abstract code of functions, printed by gen_ir.py out of the program's form in Lean; each is checked against it. -/
import Derived.Test.YtlbfpnckoblppaaProg
import Derived.Test.YtlbfpnckoblppaaAbs2
set_option linter.unusedVariables false
set_option linter.unusedSimpArgs false
set_option maxRecDepth 100000
namespace Go.Proofs.Ytlbfpnckoblppaa
open Go.Abs
-- consistoryref01.ReadText
-- consistoryref01.ReadText: args [22, 3, 3]; lent []; rs [.cell 6 (some (4, true))]; loops: 
def irRef01ReadText : IR := (.seq (.region [
    (.alloc 6 (.agg [.pv (.int .u64 0), .os 5 1 [], .pv (.int .i64 0), .pv (.int .i64 0)]), none)])
 (.seq (.kill [0, 1, 2, 6] [6] (.region [
     (.p 11 .id [.t 0], none),
     (.p 12 .id [.t 1], none),
     (.p 13 .id [.t 2], none),
     (.call 14 48 [.t 11, .t 12, .t 13] [] [] [], none),
     (.alloc 7 (.agg [.pv (.int .u64 0), .os 5 1 [], .pv (.int .i64 0), .pv (.int .i64 0)]), none),
     (.store (some (4, true)) (some 7) (.t 7) (.t 14), none)]))
  (.seq (.seq (.kill [0, 1, 6, 7] [6, 7] (.region [
       (.p 15 (.fieldAddr 3) [.t 7], none),
       (.load 16 none (some 7) (.t 15), none),
       (.p 17 (.bin .neq) [.t 16, .c (.pv (.int .i64 0))], none)]))
    (.cond (.t 17)
     (.seq (.kill [6, 7] [6, 7] (.region [
         (.load 18 (some (4, true)) (some 7) (.t 7), none),
         (.store (some (4, true)) (some 6) (.t 6) (.t 18), none)]))
      .ret)
     .skip))
   (.seq (.kill [0, 1, 6, 7] [6, 7] (.region [
       (.p 19 (.fieldAddr 0) [.t 7], none),
       (.load 20 none (some 7) (.t 19), none),
       (.p 21 (.conv .i64) [.t 20], none),
       (.p 8 .id [.t 21], none)]))
    (.seq (.kill [0, 1, 6, 7, 8] [6, 7] (.region [
        (.p 22 .id [.t 1], none),
        (.p 23 (.fieldAddr 2) [.t 7], none),
        (.load 24 none (some 7) (.t 23), none),
        (.p 25 (.bin .add) [.t 22, .t 24], none),
        (.p 9 .id [.t 25], none)]))
     (.seq (.seq (.kill [0, 6, 7, 8, 9] [6, 7] (.region [
          (.p 26 .id [.t 8], none),
          (.p 27 .id [.t 0], none),
          (.p 28 (.len none) [.t 27], none),
          (.p 29 .id [.t 9], none),
          (.p 30 (.bin .sub) [.t 28, .t 29], none),
          (.p 31 (.bin .gtr) [.t 26, .t 30], none)]))
       (.cond (.t 31)
        (.seq (.kill [6] [6] (.region [
            (.build 32 (.pagg [.int .u64 0, .sl 1 [], .int .i64 0, .int .i64 0]) [(3, 1, .c (.pv (.int .i64 1)))], none),
            (.store (some (4, true)) (some 6) (.t 6) (.t 32), none)]))
         .ret)
        .skip))
      (.seq (.kill [0, 6, 7, 8, 9] [6, 7] (.region [
          (.p 33 (.fieldAddr 2) [.t 7], none),
          (.load 34 none (some 7) (.t 33), none),
          (.p 35 .id [.t 8], none),
          (.p 36 (.bin .add) [.t 34, .t 35], none),
          (.build 37 (.agg [.pv (.int .u64 0), .os 5 1 [], .pv (.int .i64 0), .pv (.int .i64 0)]) [(2, 1, .t 36)], none),
          (.alloc 10 (.agg [.pv (.int .u64 0), .os 5 1 [], .pv (.int .i64 0), .pv (.int .i64 0)]), none),
          (.storemva 4 (some 10) (.t 10) 37, none)]))
       (.seq (.kill [0, 6, 8, 9, 10] [6, 10] (.region [
           (.p 38 (.fieldAddr 1) [.t 10], none),
           (.loadmv 39 (some 10) (.t 38), none),
           (.mv 40 0, none),
           (.p 41 .id [.t 9], none),
           (.p 42 .id [.t 9], none),
           (.p 43 .id [.t 8], none),
           (.p 44 (.bin .add) [.t 42, .t 43], none),
           (.p 45 (.slice none 1 true true) [.t 40, .t 41, .t 44], none),
           (.app 46 5 1 39 none (.t 45), none),
           (.p 47 (.fieldAddr 1) [.t 10], none),
           (.storemv (some 10) (.t 47) 46, none)]))
        (.seq (.kill [6, 10] [6, 10] (.region [
            (.load 48 (some (4, true)) (some 10) (.t 10), none),
            (.store (some (4, true)) (some 6) (.t 6) (.t 48), none)]))
         .ret)))))))))
theorem okRef01ReadText : okFn Try.prog Try.f33 irRef01ReadText [.cell 6 (some (4, true))] [] 3 = true := by kernel_rfl

-- consistoryref01.ReadCount
-- consistoryref01.ReadCount: args [22, 3, 3]; lent []; rs [.cell 6 (some (4, true))]; loops: 
def irRef01ReadCount : IR := (.seq (.region [
    (.alloc 6 (.agg [.pv (.int .u64 0), .os 5 1 [], .pv (.int .i64 0), .pv (.int .i64 0)]), none)])
 (.seq (.kill [0, 1, 2, 6] [6] (.region [
     (.mv 8 0, none),
     (.p 9 .id [.t 1], none),
     (.call 10 63 [.t 8, .t 9] [] [] [], none),
     (.alloc 7 (.agg [.pv (.int .u64 0), .os 5 1 [], .pv (.int .i64 0), .pv (.int .i64 0)]), none),
     (.store (some (4, true)) (some 7) (.t 7) (.t 10), none)]))
  (.seq (.seq (.kill [2, 6, 7] [6, 7] (.region [
       (.p 11 (.fieldAddr 3) [.t 7], none),
       (.load 12 none (some 7) (.t 11), none),
       (.p 13 (.bin .eql) [.t 12, .c (.pv (.int .i64 0))], none),
       (.p 14 .id [.t 13], none),
       (.p 15 .id [.t 2], some (14, true)),
       (.p 16 (.bin .lss) [.t 15, .c (.pv (.int .i64 0))], some (14, true)),
       (.p 17 .id [.t 16], some (14, true)),
       (.p 18 (.fieldAddr 0) [.t 7], some (17, false)),
       (.load 19 none (some 7) (.t 18), some (17, false)),
       (.p 20 .id [.t 2], some (17, false)),
       (.p 21 (.conv .u64) [.t 20], some (17, false)),
       (.p 22 (.bin .gtr) [.t 19, .t 21], some (17, false)),
       (.p 23 .pick [.t 17, .c (.pv (.bool true)), .t 22], some (14, true)),
       (.p 24 .pick [.t 14, .t 23, .c (.pv (.bool false))], none)]))
    (.cond (.t 24)
     (.seq (.kill [6] [6] (.region [
         (.build 25 (.pagg [.int .u64 0, .sl 1 [], .int .i64 0, .int .i64 0]) [(3, 1, .c (.pv (.int .i64 3)))], none),
         (.store (some (4, true)) (some 6) (.t 6) (.t 25), none)]))
      .ret)
     .skip))
   (.seq (.kill [6, 7] [6, 7] (.region [
       (.load 26 (some (4, true)) (some 7) (.t 7), none),
       (.store (some (4, true)) (some 6) (.t 6) (.t 26), none)]))
    .ret))))
theorem okRef01ReadCount : okFn Try.prog Try.f48 irRef01ReadCount [.cell 6 (some (4, true))] [] 3 = true := by kernel_rfl

-- consistoryref01.ReadPacked
-- consistoryref01.ReadPacked: args [22, 3]; lent []; rs [.cell 4 (some (4, true))]; loops: L1 keeps [0, 1, 4, 5, 6, 7] [4]
def irRef01ReadPacked_L1 : IR := (.seq (.seq (.kill [0, 1, 4, 5, 6, 7] [4] (.region [
      (.p 9 .id [.t 7], none),
      (.p 10 (.bin .lss) [.t 9, .c (.pv (.int .i64 10))], none)]))
   (.cond (.t 10)
    .skip
    (.exit 0)))
  (.seq (.block 1 (.seq (.seq (.kill [0, 1, 4, 5, 6, 7] [4] (.region [
         (.p 13 .id [.t 1], none),
         (.p 14 .id [.t 7], none),
         (.p 15 (.bin .add) [.t 13, .t 14], none),
         (.p 16 .id [.t 0], none),
         (.p 17 (.len none) [.t 16], none),
         (.p 18 (.bin .geq) [.t 15, .t 17], none)]))
      (.cond (.t 18)
       (.seq (.kill [4] [4] (.region [
           (.build 19 (.pagg [.int .u64 0, .sl 1 [], .int .i64 0, .int .i64 0]) [(3, 1, .c (.pv (.int .i64 1)))], none),
           (.store (some (4, true)) (some 4) (.t 4) (.t 19), none)]))
        .ret)
       .skip))
     (.seq (.kill [0, 1, 4, 5, 6, 7] [4] (.region [
         (.p 20 .id [.t 0], none),
         (.p 21 .id [.t 1], none),
         (.p 22 .id [.t 7], none),
         (.p 23 (.bin .add) [.t 21, .t 22], none),
         (.p 24 (.indexAddr none 1) [.t 20, .t 23], none),
         (.load 25 none (some 9999) (.t 24), none),
         (.p 8 .id [.t 25], none)]))
      (.seq (.seq (.kill [0, 1, 4, 5, 6, 7, 8] [4] (.region [
           (.p 26 .id [.t 7], none),
           (.p 27 (.bin .eql) [.t 26, .c (.pv (.int .i64 9))], none),
           (.p 28 .id [.t 27], none),
           (.p 29 .id [.t 8], some (28, true)),
           (.p 30 (.bin .gtr) [.t 29, .c (.pv (.int .u8 1))], some (28, true)),
           (.p 31 .pick [.t 28, .t 30, .c (.pv (.bool false))], none)]))
        (.cond (.t 31)
         (.seq (.kill [4] [4] (.region [
             (.build 32 (.pagg [.int .u64 0, .sl 1 [], .int .i64 0, .int .i64 0]) [(3, 1, .c (.pv (.int .i64 2)))], none),
             (.store (some (4, true)) (some 4) (.t 4) (.t 32), none)]))
          .ret)
         .skip))
       (.seq (.kill [0, 1, 4, 5, 6, 7, 8] [4] (.region [
           (.p 33 .id [.t 5], none),
           (.p 34 .id [.t 8], none),
           (.p 35 (.bin .rem) [.t 34, .c (.pv (.int .u8 128))], none),
           (.p 36 (.conv .u64) [.t 35], none),
           (.p 37 .id [.t 6], none),
           (.p 38 (.bin .mul) [.t 36, .t 37], none),
           (.p 39 (.bin .add) [.t 33, .t 38], none),
           (.p 5 .id [.t 39], none)]))
        (.seq (.seq (.kill [0, 1, 4, 5, 6, 7, 8] [4] (.region [
             (.p 40 .id [.t 8], none),
             (.p 41 (.bin .lss) [.t 40, .c (.pv (.int .u8 128))], none)]))
          (.cond (.t 41)
           (.seq (.seq (.kill [4, 5, 7, 8] [4] (.region [
                (.p 42 .id [.t 8], none),
                (.p 43 (.bin .eql) [.t 42, .c (.pv (.int .u8 0))], none),
                (.p 44 .id [.t 43], none),
                (.p 45 .id [.t 7], some (44, true)),
                (.p 46 (.bin .gtr) [.t 45, .c (.pv (.int .i64 0))], some (44, true)),
                (.p 47 .pick [.t 44, .t 46, .c (.pv (.bool false))], none)]))
             (.cond (.t 47)
              (.seq (.kill [4] [4] (.region [
                  (.build 48 (.pagg [.int .u64 0, .sl 1 [], .int .i64 0, .int .i64 0]) [(3, 1, .c (.pv (.int .i64 2)))], none),
                  (.store (some (4, true)) (some 4) (.t 4) (.t 48), none)]))
               .ret)
              .skip))
            (.seq (.kill [4, 5, 7] [4] (.region [
                (.p 49 .id [.t 5], none),
                (.p 50 .id [.t 7], none),
                (.p 51 (.bin .add) [.t 50, .c (.pv (.int .i64 1))], none),
                (.build 52 (.pagg [.int .u64 0, .sl 1 [], .int .i64 0, .int .i64 0]) [(0, 1, .t 49), (2, 1, .t 51)], none),
                (.store (some (4, true)) (some 4) (.t 4) (.t 52), none)]))
             .ret))
           .skip))
         (.kill [0, 1, 4, 5, 6, 7] [4] (.region [
            (.p 53 .id [.t 6], none),
            (.p 54 (.bin .mul) [.c (.pv (.int .u64 128)), .t 53], none),
            (.p 6 .id [.t 54], none)]))))))))
   (.kill [0, 1, 4, 5, 6, 7] [4] (.region [
      (.p 11 .id [.t 7], none),
      (.p 12 (.bin .add) [.t 11, .c (.pv (.int .i64 1))], none),
      (.p 7 .id [.t 12], none)]))))
def irRef01ReadPacked : IR := (.seq (.region [
    (.alloc 4 (.agg [.pv (.int .u64 0), .os 5 1 [], .pv (.int .i64 0), .pv (.int .i64 0)]), none)])
 (.seq (.kill [0, 1, 4] [4] (.region [
     (.p 5 .id [.c (.pv (.int .u64 0))], none)]))
  (.seq (.kill [0, 1, 4, 5] [4] (.region [
      (.p 6 .id [.c (.pv (.int .u64 1))], none)]))
   (.seq (.seq (.kill [0, 1, 4, 5, 6] [4] (.region [
        (.p 7 .id [.c (.pv (.int .i64 0))], none)]))
     (.block 0 (.loop (.kill [0, 1, 4, 5, 6, 7] [4] irRef01ReadPacked_L1))))
    (.seq (.kill [4] [4] (.region [
        (.build 55 (.pagg [.int .u64 0, .sl 1 [], .int .i64 0, .int .i64 0]) [(3, 1, .c (.pv (.int .i64 2)))], none),
        (.store (some (4, true)) (some 4) (.t 4) (.t 55), none)]))
     .ret)))))
theorem okRef01ReadPacked : okFn Try.prog Try.f63 irRef01ReadPacked [.cell 4 (some (4, true))] [] 2 = true := by kernel_rfl

end Go.Proofs.Ytlbfpnckoblppaa
