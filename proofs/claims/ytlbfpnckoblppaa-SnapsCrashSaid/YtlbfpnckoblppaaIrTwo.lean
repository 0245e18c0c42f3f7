/- The abstract code of functions, printed by gen_ir.py out of the program's form in Lean; each is checked against it. -/
import Derived.Test.YtlbfpnckoblppaaProg
import Derived.Test.YtlbfpnckoblppaaIrDisk
set_option linter.unusedVariables false
set_option linter.unusedSimpArgs false
set_option maxRecDepth 100000
namespace Go.Proofs.Ytlbfpnckoblppaa
open Go.Abs
-- consistorylaw12.wakes
-- consistorylaw12.wakes: args []; lent []; rs [.t 0]; loops: 
def strLaw12Wakes_1 : ByteArray := ⟨#[115]⟩
def irLaw12Wakes : IR := (.seq (.region [
    (.p 0 .id [.c (.pv (.bool false))], none)])
 (.seq (.kill [] [] (.region [
     (.call 4 9 [.c (.pv (.int .i64 100))] [] [4, 504, 604] [], none),
     (.p 1 .id [.t 4], none)]))
  (.seq (.seq (.kill [1] [4, 504, 604] (.region [
       (.p 5 .id [.t 1], none),
       (.call 6 15 [.t 5, .c (.pv (.str strLaw12Wakes_1)), .c (.os 5 1 [])] [4, 504, 604] [6, 406] [], none),
       (.p 7 (.bin .neq) [.t 6, .c (.pv (.int .i64 0))], none)]))
    (.cond (.t 7)
     (.seq (.kill [] [] (.region [
         (.p 0 .id [.c (.pv (.bool false))], none)]))
      .ret)
     .skip))
   (.seq (.kill [1] [4, 6, 406] (.region [
       (.p 9 .id [.t 1], none),
       (.call 10 17 [.t 9, .c (.pv (.str strLaw12Wakes_1))] [4, 6, 406] [] [], none),
       (.p 8 .id [.t 10], none),
       (.p 11 (.ext 0) [.t 8], none),
       (.p 12 (.ext 1) [.t 8], none),
       (.mv 2 11, none),
       (.p 3 .id [.t 12], none)]))
    (.seq (.kill [2, 3] [] (.region [
        (.p 13 .id [.t 3], none),
        (.p 14 (.bin .eql) [.t 13, .c (.pv (.int .i64 0))], none),
        (.p 15 .id [.t 14], none),
        (.p 16 .id [.t 2], some (15, true)),
        (.p 17 (.len none) [.t 16], some (15, true)),
        (.p 18 (.bin .eql) [.t 17, .c (.pv (.int .i64 9))], some (15, true)),
        (.p 19 .pick [.t 15, .t 18, .c (.pv (.bool false))], none),
        (.p 20 .id [.t 19], none),
        (.p 21 .id [.t 2], some (20, true)),
        (.p 22 (.indexAddr none 1) [.t 21, .c (.pv (.int .i64 0))], some (20, true)),
        (.load 23 none (some 9999) (.t 22), some (20, true)),
        (.p 24 (.bin .eql) [.t 23, .c (.pv (.int .u8 0))], some (20, true)),
        (.p 25 .pick [.t 20, .t 24, .c (.pv (.bool false))], none),
        (.p 0 .id [.t 25], none)]))
     .ret)))))
theorem okLaw12Wakes : okFn Try.prog Try.f8 irLaw12Wakes [.t 0] [] 0 = true := by kernel_rfl

-- consistorylaw12.SnapsTwo
-- consistorylaw12.SnapsTwo: args [22, 22, 4]; lent []; rs [.t 6]; loops: 
def strLaw12SnapsTwo_1 : ByteArray := ⟨#[111, 110, 101]⟩
def strLaw12SnapsTwo_2 : ByteArray := ⟨#[116, 119, 111]⟩
def irLaw12SnapsTwo : IR := (.seq (.region [
    (.p 6 .id [.c (.pv (.bool false))], none)])
 (.seq (.seq (.kill [0, 1, 2] [] (.region [
      (.call 13 8 [] [] [] [], none),
      (.p 14 (.un .not) [.t 13], none)]))
   (.cond (.t 14)
    (.seq (.kill [] [] (.region [
        (.p 6 .id [.c (.pv (.bool false))], none)]))
     .ret)
    .skip))
  (.seq (.seq (.kill [0, 1, 2] [] (.region [
       (.p 15 .id [.t 0], none),
       (.p 16 (.len none) [.t 15], none),
       (.p 17 (.bin .gtr) [.t 16, .c (.pv (.int .i64 3000))], none),
       (.p 18 .id [.t 17], none),
       (.p 19 .id [.t 1], some (18, false)),
       (.p 20 (.len none) [.t 19], some (18, false)),
       (.p 21 (.bin .gtr) [.t 20, .c (.pv (.int .i64 3000))], some (18, false)),
       (.p 22 .pick [.t 18, .c (.pv (.bool true)), .t 21], none)]))
    (.cond (.t 22)
     (.seq (.kill [] [] (.region [
         (.p 6 .id [.c (.pv (.bool true))], none)]))
      .ret)
     .skip))
   (.seq (.kill [0, 1, 2] [] (.region [
       (.call 23 9 [.c (.pv (.int .i64 65536))] [] [23, 523, 623] [], none),
       (.p 7 .id [.t 23], none)]))
    (.seq (.seq (.kill [0, 1, 2, 7] [23, 523, 623] (.region [
         (.p 24 .id [.t 7], none),
         (.p 25 .id [.t 0], none),
         (.call 26 15 [.t 24, .c (.pv (.str strLaw12SnapsTwo_1)), .t 25] [23, 523, 623] [26, 426] [], none),
         (.p 27 (.bin .neq) [.t 26, .c (.pv (.int .i64 0))], none),
         (.p 28 .id [.t 27], none),
         (.p 29 .id [.t 7], some (28, false)),
         (.p 30 .id [.t 1], some (28, false)),
         (.call 31 15 [.t 29, .c (.pv (.str strLaw12SnapsTwo_2)), .t 30] [23, 26, 426] [31, 431] [], some (28, false)),
         (.p 32 (.bin .neq) [.t 31, .c (.pv (.int .i64 0))], some (28, false)),
         (.p 33 .pick [.t 28, .c (.pv (.bool true)), .t 32], none)]))
      (.cond (.t 33)
       (.seq (.kill [] [] (.region [
           (.p 6 .id [.c (.pv (.bool false))], none)]))
        .ret)
       .skip))
     (.seq (.seq (.kill [0, 1, 2, 7] [23, 31, 431] (.region [
          (.p 34 .id [.t 2], none),
          (.p 35 .id [.t 34], none),
          (.p 36 .id [.t 7], some (35, true)),
          (.p 37 .id [.t 1], some (35, true)),
          (.call 38 15 [.t 36, .c (.pv (.str strLaw12SnapsTwo_1)), .t 37] [23, 31, 431] [38, 438] [], some (35, true)),
          (.p 39 (.bin .neq) [.t 38, .c (.pv (.int .i64 0))], some (35, true)),
          (.p 40 .pick [.t 35, .t 39, .c (.pv (.bool false))], none)]))
       (.cond (.t 40)
        (.seq (.kill [] [] (.region [
            (.p 6 .id [.c (.pv (.bool false))], none)]))
         .ret)
        .skip))
      (.alt (.seq (.kill [0, 1, 2, 7] [23, 38, 438] (.region [
          (.p 42 .id [.t 7], none),
          (.call 43 11 [.t 42, .c (.pv (.str strLaw12SnapsTwo_1))] [23, 38, 438] [] [], none),
          (.p 41 .id [.t 43], none),
          (.p 44 (.ext 0) [.t 41], none),
          (.p 45 (.ext 1) [.t 41], none),
          (.mv 8 44, none),
          (.p 9 .id [.t 45], none)]))
       (.seq (.kill [0, 1, 2, 7, 8, 9] [23, 38, 438] (.region [
           (.p 47 .id [.t 7], none),
           (.call 48 11 [.t 47, .c (.pv (.str strLaw12SnapsTwo_2))] [23, 38, 438] [] [], none),
           (.p 46 .id [.t 48], none),
           (.p 49 (.ext 0) [.t 46], none),
           (.p 50 (.ext 1) [.t 46], none),
           (.mv 10 49, none),
           (.p 11 .id [.t 50], none)]))
        (.seq (.kill [0, 1, 2, 8, 9, 10, 11] [] (.region [
            (.mv 51 0, none),
            (.mv 12 51, none)]))
         (.seq (.seq (.kill [1, 2, 8, 9, 10, 11, 12] [] (.region [
              (.p 52 .id [.t 2], none)]))
           (.cond (.t 52)
            (.kill [1, 8, 9, 10, 11] [] (.region [
               (.p 53 .id [.t 1], none),
               (.mv 12 53, none)]))
            .skip))
          (.seq (.kill [1, 8, 9, 10, 11, 12] [] (.region [
              (.p 54 .id [.t 9], none),
              (.p 55 (.bin .eql) [.t 54, .c (.pv (.int .i64 0))], none),
              (.p 56 .id [.t 55], none),
              (.p 57 .id [.t 11], some (56, true)),
              (.p 58 (.bin .eql) [.t 57, .c (.pv (.int .i64 0))], some (56, true)),
              (.p 59 .pick [.t 56, .t 58, .c (.pv (.bool false))], none),
              (.p 60 .id [.t 59], none),
              (.mv 61 8, some (60, true)),
              (.mv 62 12, some (60, true)),
              (.call 63 14 [.t 61, .t 62] [] [] [], some (60, true)),
              (.p 64 .pick [.t 60, .t 63, .c (.pv (.bool false))], none),
              (.p 65 .id [.t 64], none),
              (.mv 66 10, some (65, true)),
              (.mv 67 1, some (65, true)),
              (.call 68 14 [.t 66, .t 67] [] [] [], some (65, true)),
              (.p 69 .pick [.t 65, .t 68, .c (.pv (.bool false))], none),
              (.p 6 .id [.t 69], none)]))
           .ret)))))
 (.seq (.kill [0, 1, 2, 7] [23, 31, 431] (.region [
          (.p 42 .id [.t 7], none),
          (.call 43 11 [.t 42, .c (.pv (.str strLaw12SnapsTwo_1))] [23, 31, 431] [] [], none),
          (.p 41 .id [.t 43], none),
          (.p 44 (.ext 0) [.t 41], none),
          (.p 45 (.ext 1) [.t 41], none),
          (.mv 8 44, none),
          (.p 9 .id [.t 45], none)]))
       (.seq (.kill [0, 1, 2, 7, 8, 9] [23, 31, 431] (.region [
           (.p 47 .id [.t 7], none),
           (.call 48 11 [.t 47, .c (.pv (.str strLaw12SnapsTwo_2))] [23, 31, 431] [] [], none),
           (.p 46 .id [.t 48], none),
           (.p 49 (.ext 0) [.t 46], none),
           (.p 50 (.ext 1) [.t 46], none),
           (.mv 10 49, none),
           (.p 11 .id [.t 50], none)]))
        (.seq (.kill [0, 1, 2, 8, 9, 10, 11] [] (.region [
            (.mv 51 0, none),
            (.mv 12 51, none)]))
         (.seq (.seq (.kill [1, 2, 8, 9, 10, 11, 12] [] (.region [
              (.p 52 .id [.t 2], none)]))
           (.cond (.t 52)
            (.kill [1, 8, 9, 10, 11] [] (.region [
               (.p 53 .id [.t 1], none),
               (.mv 12 53, none)]))
            .skip))
          (.seq (.kill [1, 8, 9, 10, 11, 12] [] (.region [
              (.p 54 .id [.t 9], none),
              (.p 55 (.bin .eql) [.t 54, .c (.pv (.int .i64 0))], none),
              (.p 56 .id [.t 55], none),
              (.p 57 .id [.t 11], some (56, true)),
              (.p 58 (.bin .eql) [.t 57, .c (.pv (.int .i64 0))], some (56, true)),
              (.p 59 .pick [.t 56, .t 58, .c (.pv (.bool false))], none),
              (.p 60 .id [.t 59], none),
              (.mv 61 8, some (60, true)),
              (.mv 62 12, some (60, true)),
              (.call 63 14 [.t 61, .t 62] [] [] [], some (60, true)),
              (.p 64 .pick [.t 60, .t 63, .c (.pv (.bool false))], none),
              (.p 65 .id [.t 64], none),
              (.mv 66 10, some (65, true)),
              (.mv 67 1, some (65, true)),
              (.call 68 14 [.t 66, .t 67] [] [] [], some (65, true)),
              (.p 69 .pick [.t 65, .t 68, .c (.pv (.bool false))], none),
              (.p 6 .id [.t 69], none)]))
           .ret))))))))))))
theorem okLaw12SnapsTwo : okFn Try.prog Try.f4 irLaw12SnapsTwo [.t 6] [] 3 = true := by kernel_rfl

end Go.Proofs.Ytlbfpnckoblppaa
