/- The abstract code of functions, printed by gen_ir.py out of the program's form in Lean; each is checked against it. -/
import Derived.Test.YtlmjhnlhgmabpaaProg
import Derived.Test.YtlmjhnlhgmabpaaAbs2
set_option linter.unusedVariables false
set_option linter.unusedSimpArgs false
set_option maxRecDepth 100000
namespace Go.Proofs.Ytlmjhnlhgmabpaa
open Go.Abs
-- ots.Digits
-- ots.Digits: args [23]; lent []; rs [.cell 2 (some (35, true))]; loops: L1 keeps [1, 2, 3, 4, 7] [1, 2, 3]; L2 keeps [2, 3, 4, 41] [2, 3]
def irOtsDigits_L1 : IR := (.seq (.kill [1, 2, 3, 4, 7] [1, 2, 3] (.region [
     (.p 8 (.bin .lss) [.t 7, .c (.pv (.int .i64 16))], none)]))
  (.seq (.cond (.t 8)
    .skip
    (.exit 0))
   (.seq (.block 1 (.seq (.kill [1, 2, 3, 4, 7] [1, 2, 3] (.region [
         (.p 9 .id [.t 7], none),
         (.p 5 .id [.t 9], none)]))
      (.seq (.kill [1, 2, 3, 4, 5, 7] [1, 2, 3] (.region [
          (.p 10 .id [.t 5], none),
          (.p 11 (.bin .mul) [.c (.pv (.int .i64 2)), .t 10], none),
          (.p 12 .id [.t 5], none),
          (.p 13 (.bin .mul) [.c (.pv (.int .i64 2)), .t 12], none),
          (.p 14 (.bin .add) [.t 13, .c (.pv (.int .i64 1))], none),
          (.p 15 .id [.t 5], none),
          (.p 16 (.indexAddr (some 32) 1) [.t 1, .t 15], none),
          (.load 17 none (some 1) (.t 16), none),
          (.p 18 (.bin .shr) [.t 17, .c (.pv (.int .u64 4))], none),
          (.p 19 (.conv .i64) [.t 18], none),
          (.p 20 .id [.t 5], none),
          (.p 21 (.indexAddr (some 32) 1) [.t 1, .t 20], none),
          (.load 22 none (some 1) (.t 21), none),
          (.p 23 (.bin .and) [.t 22, .c (.pv (.int .u8 15))], none),
          (.p 24 (.conv .i64) [.t 23], none),
          (.p 25 (.indexAddr (some 35) 1) [.t 3, .t 11], none),
          (.store none (some 3) (.t 25) (.t 19), none),
          (.p 26 (.indexAddr (some 35) 1) [.t 3, .t 14], none),
          (.store none (some 3) (.t 26) (.t 24), none)]))
       (.kill [1, 2, 3, 4, 5, 7] [1, 2, 3] (.region [
          (.p 27 .id [.t 4], none),
          (.p 28 .id [.t 5], none),
          (.p 29 (.bin .mul) [.c (.pv (.int .i64 2)), .t 28], none),
          (.p 30 (.indexAddr (some 35) 1) [.t 3, .t 29], none),
          (.load 31 none (some 3) (.t 30), none),
          (.p 32 (.bin .sub) [.c (.pv (.int .i64 30)), .t 31], none),
          (.p 33 .id [.t 5], none),
          (.p 34 (.bin .mul) [.c (.pv (.int .i64 2)), .t 33], none),
          (.p 35 (.bin .add) [.t 34, .c (.pv (.int .i64 1))], none),
          (.p 36 (.indexAddr (some 35) 1) [.t 3, .t 35], none),
          (.load 37 none (some 3) (.t 36), none),
          (.p 38 (.bin .sub) [.t 32, .t 37], none),
          (.p 39 (.bin .add) [.t 27, .t 38], none),
          (.p 4 .id [.t 39], none)])))))
    (.kill [1, 2, 3, 4, 7] [1, 2, 3] (.region [
       (.p 40 (.bin .add) [.t 7, .c (.pv (.int .i64 1))], none),
       (.p 7 .id [.t 40], none)])))))
def irOtsDigits_L2 : IR := (.seq (.kill [2, 3, 4, 41] [2, 3] (.region [
     (.p 42 (.bin .lss) [.t 41, .c (.pv (.int .i64 3))], none)]))
  (.seq (.cond (.t 42)
    .skip
    (.exit 2))
   (.seq (.block 3 (.seq (.kill [2, 3, 4, 41] [2, 3] (.region [
         (.p 43 .id [.t 41], none),
         (.p 6 .id [.t 43], none)]))
      (.kill [2, 3, 4, 6, 41] [2, 3] (.region [
         (.p 44 .id [.t 6], none),
         (.p 45 (.bin .add) [.c (.pv (.int .i64 32)), .t 44], none),
         (.p 46 .id [.t 4], none),
         (.p 47 .id [.t 6], none),
         (.p 48 (.bin .mul) [.c (.pv (.int .i64 4)), .t 47], none),
         (.p 49 (.bin .sub) [.c (.pv (.int .i64 8)), .t 48], none),
         (.p 50 (.bin .shr) [.t 46, .t 49], none),
         (.p 51 (.bin .and) [.t 50, .c (.pv (.int .i64 15))], none),
         (.p 52 (.indexAddr (some 35) 1) [.t 3, .t 45], none),
         (.store none (some 3) (.t 52) (.t 51), none)]))))
    (.kill [2, 3, 4, 41] [2, 3] (.region [
       (.p 53 (.bin .add) [.t 41, .c (.pv (.int .i64 1))], none),
       (.p 41 .id [.t 53], none)])))))
def irOtsDigits : IR := (.seq (.region [
    (.box 1 (.t 0), none),
    (.alloc 2 (.pagg (List.replicate 35 (.int .i64 0))), none)])
 (.seq (.kill [1, 2] [1, 2] (.region [
     (.alloc 3 (.pagg (List.replicate 35 (.int .i64 0))), none)]))
  (.seq (.kill [1, 2, 3] [1, 2, 3] (.region [
      (.p 4 .id [.c (.pv (.int .i64 0))], none)]))
   (.seq (.seq (.kill [1, 2, 3, 4] [1, 2, 3] (.region [
        (.p 7 .id [.c (.pv (.int .i64 0))], none)]))
     (.block 0 (.loop (.kill [1, 2, 3, 4, 7] [1, 2, 3] irOtsDigits_L1))))
    (.seq (.seq (.kill [2, 3, 4] [2, 3] (.region [
         (.p 41 .id [.c (.pv (.int .i64 0))], none)]))
      (.block 2 (.loop (.kill [2, 3, 4, 41] [2, 3] irOtsDigits_L2))))
     (.seq (.kill [2, 3] [2, 3] (.region [
         (.load 54 (some (35, true)) (some 3) (.t 3), none),
         (.store (some (35, true)) (some 2) (.t 2) (.t 54), none)]))
      .ret))))))
theorem okOtsDigits : okFn Try.prog Try.f38 irOtsDigits [.cell 2 (some (35, true))] [] 1 = true := by kernel_rfl

-- consistoryref04.Digits
-- consistoryref04.Digits: args [23]; lent []; rs [.t 2]; loops: L1 keeps [1, 3, 4, 5] [1]
def irRef04Digits_L1 : IR := (.seq (.seq (.kill [1, 3, 4, 5] [1] (.region [
      (.p 8 .id [.t 5], none),
      (.p 9 (.bin .lss) [.t 8, .c (.pv (.int .i64 16))], none)]))
   (.cond (.t 9)
    .skip
    (.exit 0)))
  (.seq (.block 1 (.seq (.kill [1, 3, 4, 5] [1] (.region [
        (.p 12 .id [.t 5], none),
        (.p 13 (.indexAddr (some 32) 1) [.t 1, .t 12], none),
        (.load 14 none (some 1) (.t 13), none),
        (.p 15 (.conv .i64) [.t 14], none),
        (.p 16 (.bin .quo) [.t 15, .c (.pv (.int .i64 16))], none),
        (.p 6 .id [.t 16], none)]))
     (.seq (.kill [1, 3, 4, 5, 6] [1] (.region [
         (.p 17 .id [.t 5], none),
         (.p 18 (.indexAddr (some 32) 1) [.t 1, .t 17], none),
         (.load 19 none (some 1) (.t 18), none),
         (.p 20 (.conv .i64) [.t 19], none),
         (.p 21 (.bin .rem) [.t 20, .c (.pv (.int .i64 16))], none),
         (.p 7 .id [.t 21], none)]))
      (.seq (.kill [1, 3, 4, 5, 6, 7] [1] (.region [
          (.mv 22 3, none),
          (.p 23 .id [.t 6], none),
          (.p 24 .id [.t 7], none),
          (.bslice 25 3 1 2 [.int .i64 0] [(0, .t 23), (1, .t 24)], none),
          (.app 26 3 1 22 none (.t 25), none),
          (.mv 3 26, none)]))
       (.kill [1, 3, 4, 5, 6, 7] [1] (.region [
          (.p 27 .id [.t 4], none),
          (.p 28 (.bin .add) [.t 27, .c (.pv (.int .i64 30))], none),
          (.p 29 .id [.t 6], none),
          (.p 30 (.bin .sub) [.t 28, .t 29], none),
          (.p 31 .id [.t 7], none),
          (.p 32 (.bin .sub) [.t 30, .t 31], none),
          (.p 4 .id [.t 32], none)]))))))
   (.kill [1, 3, 4, 5] [1] (.region [
      (.p 10 .id [.t 5], none),
      (.p 11 (.bin .add) [.t 10, .c (.pv (.int .i64 1))], none),
      (.p 5 .id [.t 11], none)]))))
def irRef04Digits : IR := (.seq (.region [
    (.box 1 (.t 0), none),
    (.p 2 .id [.c (.os 3 1 [])], none)])
 (.seq (.kill [1] [1] (.region [
     (.p 3 .id [.c (.os 3 1 [])], none)]))
  (.seq (.kill [1, 3] [1] (.region [
      (.p 4 .id [.c (.pv (.int .i64 0))], none)]))
   (.seq (.seq (.kill [1, 3, 4] [1] (.region [
        (.p 5 .id [.c (.pv (.int .i64 0))], none)]))
     (.block 0 (.loop (.kill [1, 3, 4, 5] [1] irRef04Digits_L1))))
    (.seq (.kill [3, 4] [] (.region [
        (.mv 33 3, none),
        (.p 34 .id [.t 4], none),
        (.p 35 (.bin .quo) [.t 34, .c (.pv (.int .i64 256))], none),
        (.p 36 .id [.t 4], none),
        (.p 37 (.bin .quo) [.t 36, .c (.pv (.int .i64 16))], none),
        (.p 38 (.bin .rem) [.t 37, .c (.pv (.int .i64 16))], none),
        (.p 39 .id [.t 4], none),
        (.p 40 (.bin .rem) [.t 39, .c (.pv (.int .i64 16))], none),
        (.bslice 41 3 1 3 [.int .i64 0] [(0, .t 35), (1, .t 38), (2, .t 40)], none),
        (.app 42 3 1 33 none (.t 41), none),
        (.mv 3 42, none)]))
     (.seq (.kill [3] [] (.region [
         (.mv 43 3, none),
         (.mv 2 43, none)]))
      .ret))))))
theorem okRef04Digits : okFn Try.prog Try.f41 irRef04Digits [.t 2] [] 1 = true := by kernel_rfl

end Go.Proofs.Ytlmjhnlhgmabpaa
