/- The abstract code of functions, printed by gen_ir.py out of the program's form in Lean; each is checked against it. -/
import Derived.Test.YtlbfpnckoblppaaProg
import Derived.Test.YtlbfpnckoblppaaAbs2
set_option linter.unusedVariables false
set_option linter.unusedSimpArgs false
set_option maxRecDepth 100000
namespace Go.Proofs.Ytlbfpnckoblppaa
open Go.Abs
-- nums.New
-- nums.New: args [22]; lent []; rs [.t 2]; loops: 
def irNumsNew : IR := (.seq (.region [
    (.p 2 .id [.c (.pv .nilp)], none)])
 (.seq (.kill [0] [] (.region [
     (.mv 3 0, none),
     (.call 4 26 [.t 3] [] [] [], none),
     (.build 5 (.pagg [.sl 1 [], .int .i64 0]) [(0, 1, .t 4)], none),
     (.box 6 (.t 5), none),
     (.p 2 .id [.t 6], none)]))
  .ret))
theorem okNumsNew : okFn Try.prog Try.f28 irNumsNew [.t 2] [6] 1 = true := by kernel_rfl

-- nums.Reader.Left
-- nums.Reader.Left: args [63]; lent [0]; rs [.t 2]; loops: 
def irNumsReaderLeft : IR := (.seq (.region [
    (.p 2 .id [.c (.pv (.int .i64 0))], none)])
 (.seq (.seq (.kill [0] [1000] (.region [
      (.p 3 .id [.t 0], none),
      (.p 4 (.peq false) [.t 3, .c (.pv .nilp)], none)]))
   (.cond (.t 4)
    (.seq (.kill [0] [1000] (.region [
        (.p 2 .id [.c (.pv (.int .i64 0))], none)]))
     .ret)
    .skip))
  (.seq (.kill [0] [1000] (.region [
      (.p 5 .id [.t 0], none),
      (.p 6 .nilc [.t 5], none),
      (.p 7 (.fieldAddr 0) [.t 6], none),
      (.load 8 none (some 1000) (.t 7), none),
      (.p 9 (.len none) [.t 8], none),
      (.p 10 .id [.t 0], none),
      (.p 11 .nilc [.t 10], none),
      (.p 12 (.fieldAddr 1) [.t 11], none),
      (.load 13 none (some 1000) (.t 12), none),
      (.p 14 (.bin .sub) [.t 9, .t 13], none),
      (.p 2 .id [.t 14], none)]))
   .ret)))
theorem okNumsReaderLeft : okFn Try.prog Try.f30 irNumsReaderLeft [.t 2] [] 1 = true := by kernel_rfl

-- nums.Reader.Packed
-- nums.Reader.Packed: args [63]; lent [0]; rs [.t 2, .t 3]; loops: L1 keeps [0, 4, 9] [1000]
def irNumsReaderPacked_L1 : IR := (.seq (.kill [0, 4, 9] [1000] (.region [
     (.p 10 (.bin .lss) [.t 9, .c (.pv (.int .i64 10))], none)]))
  (.seq (.cond (.t 10)
    .skip
    (.exit 0))
   (.seq (.block 1 (.seq (.kill [0, 4, 9] [1000] (.region [
         (.p 11 .id [.t 9], none),
         (.p 5 .id [.t 11], none)]))
      (.seq (.seq (.kill [0, 4, 5, 9] [1000] (.region [
           (.p 12 .id [.t 0], none),
           (.p 13 .nilc [.t 12], none),
           (.p 14 (.fieldAddr 1) [.t 13], none),
           (.load 15 none (some 1000) (.t 14), none),
           (.p 16 .id [.t 5], none),
           (.p 17 (.bin .add) [.t 15, .t 16], none),
           (.p 18 .id [.t 0], none),
           (.p 19 .nilc [.t 18], none),
           (.p 20 (.fieldAddr 0) [.t 19], none),
           (.load 21 none (some 1000) (.t 20), none),
           (.p 22 (.len none) [.t 21], none),
           (.p 23 (.bin .geq) [.t 17, .t 22], none)]))
        (.cond (.t 23)
         (.seq (.kill [0] [1000] (.region [
             (.p 2 .id [.c (.pv (.int .u64 0))], none),
             (.p 3 .id [.c (.pv (.int .i64 1))], none)]))
          .ret)
         .skip))
       (.seq (.kill [0, 4, 5, 9] [1000] (.region [
           (.p 24 .id [.t 0], none),
           (.p 25 .nilc [.t 24], none),
           (.p 26 (.fieldAddr 0) [.t 25], none),
           (.load 27 none (some 1000) (.t 26), none),
           (.p 28 .id [.t 0], none),
           (.p 29 .nilc [.t 28], none),
           (.p 30 (.fieldAddr 1) [.t 29], none),
           (.load 31 none (some 1000) (.t 30), none),
           (.p 32 .id [.t 5], none),
           (.p 33 (.bin .add) [.t 31, .t 32], none),
           (.p 34 (.indexAddr none 1) [.t 27, .t 33], none),
           (.load 35 none (some 9999) (.t 34), none),
           (.p 6 .id [.t 35], none)]))
        (.seq (.seq (.kill [0, 4, 5, 6, 9] [1000] (.region [
             (.p 36 .id [.t 5], none),
             (.p 37 (.bin .eql) [.t 36, .c (.pv (.int .i64 9))], none),
             (.p 38 .id [.t 37], none),
             (.p 39 .id [.t 6], some (38, true)),
             (.p 40 (.bin .gtr) [.t 39, .c (.pv (.int .u8 1))], some (38, true)),
             (.p 41 .pick [.t 38, .t 40, .c (.pv (.bool false))], none)]))
          (.cond (.t 41)
           (.seq (.kill [0] [1000] (.region [
               (.p 2 .id [.c (.pv (.int .u64 0))], none),
               (.p 3 .id [.c (.pv (.int .i64 2))], none)]))
            .ret)
           .skip))
         (.seq (.kill [0, 4, 5, 6, 9] [1000] (.region [
             (.p 42 .id [.t 4], none),
             (.p 43 .id [.t 6], none),
             (.p 44 (.bin .and) [.t 43, .c (.pv (.int .u8 127))], none),
             (.p 45 (.conv .u64) [.t 44], none),
             (.p 46 .id [.t 5], none),
             (.p 47 (.bin .mul) [.c (.pv (.int .i64 7)), .t 46], none),
             (.p 48 (.bin .shl) [.t 45, .t 47], none),
             (.p 49 (.bin .or) [.t 42, .t 48], none),
             (.p 4 .id [.t 49], none)]))
          (.seq (.kill [0, 4, 5, 6, 9] [1000] (.region [
              (.p 50 .id [.t 6], none),
              (.p 51 (.bin .lss) [.t 50, .c (.pv (.int .u8 128))], none)]))
           (.cond (.t 51)
            (.seq (.seq (.kill [0, 4, 5, 6] [1000] (.region [
                 (.p 52 .id [.t 6], none),
                 (.p 53 (.bin .eql) [.t 52, .c (.pv (.int .u8 0))], none),
                 (.p 54 .id [.t 53], none),
                 (.p 55 .id [.t 5], some (54, true)),
                 (.p 56 (.bin .gtr) [.t 55, .c (.pv (.int .i64 0))], some (54, true)),
                 (.p 57 .pick [.t 54, .t 56, .c (.pv (.bool false))], none)]))
              (.cond (.t 57)
               (.seq (.kill [0] [1000] (.region [
                   (.p 2 .id [.c (.pv (.int .u64 0))], none),
                   (.p 3 .id [.c (.pv (.int .i64 2))], none)]))
                .ret)
               .skip))
             (.seq (.kill [0, 4, 5] [1000] (.region [
                 (.p 58 .id [.t 0], none),
                 (.p 59 .nilc [.t 58], none),
                 (.p 60 (.fieldAddr 1) [.t 59], none),
                 (.load 61 none (some 1000) (.t 60), none),
                 (.p 62 .id [.t 5], none),
                 (.p 63 (.bin .add) [.t 62, .c (.pv (.int .i64 1))], none),
                 (.p 64 (.bin .add) [.t 61, .t 63], none),
                 (.p 65 .nilc [.t 58], none),
                 (.p 66 (.fieldAddr 1) [.t 65], none),
                 (.store none (some 1000) (.t 66) (.t 64), none)]))
              (.seq (.kill [0, 4] [1000] (.region [
                  (.p 67 .id [.t 4], none),
                  (.p 2 .id [.t 67], none),
                  (.p 3 .id [.c (.pv (.int .i64 0))], none)]))
               .ret)))
            .skip))))))))
    (.kill [0, 4, 9] [1000] (.region [
       (.p 68 (.bin .add) [.t 9, .c (.pv (.int .i64 1))], none),
       (.p 9 .id [.t 68], none)])))))
def irNumsReaderPacked : IR := (.seq (.region [
    (.p 2 .id [.c (.pv (.int .u64 0))], none),
    (.p 3 .id [.c (.pv (.int .i64 0))], none)])
 (.seq (.seq (.kill [0] [1000] (.region [
      (.p 7 .id [.t 0], none),
      (.p 8 (.peq false) [.t 7, .c (.pv .nilp)], none)]))
   (.cond (.t 8)
    (.seq (.kill [0] [1000] (.region [
        (.p 2 .id [.c (.pv (.int .u64 0))], none),
        (.p 3 .id [.c (.pv (.int .i64 16))], none)]))
     .ret)
    .skip))
  (.seq (.kill [0] [1000] (.region [
      (.p 4 .id [.c (.pv (.int .u64 0))], none)]))
   (.seq (.seq (.kill [0, 4] [1000] (.region [
        (.p 9 .id [.c (.pv (.int .i64 0))], none)]))
     (.block 0 (.loop (.kill [0, 4, 9] [1000] irNumsReaderPacked_L1))))
    (.seq (.kill [0] [1000] (.region [
        (.p 2 .id [.c (.pv (.int .u64 0))], none),
        (.p 3 .id [.c (.pv (.int .i64 2))], none)]))
     .ret)))))
theorem okNumsReaderPacked : okFn Try.prog Try.f56 irNumsReaderPacked [.t 2, .t 3] [] 1 = true := by kernel_rfl

-- nums.Reader.Count
-- nums.Reader.Count: args [63, 3]; lent [0]; rs [.t 4, .t 5]; loops: 
def irNumsReaderCount : IR := (.seq (.region [
    (.p 4 .id [.c (.pv (.int .i64 0))], none),
    (.p 5 .id [.c (.pv (.int .i64 0))], none)])
 (.seq (.seq (.kill [0, 1] [1000] (.region [
      (.p 9 .id [.t 0], none),
      (.p 10 (.peq false) [.t 9, .c (.pv .nilp)], none)]))
   (.cond (.t 10)
    (.seq (.kill [0] [1000] (.region [
        (.p 4 .id [.c (.pv (.int .i64 0))], none),
        (.p 5 .id [.c (.pv (.int .i64 16))], none)]))
     .ret)
    .skip))
  (.seq (.kill [0, 1] [1000] (.region [
      (.p 11 .id [.t 0], none),
      (.p 12 .nilc [.t 11], none),
      (.p 13 (.fieldAddr 1) [.t 12], none),
      (.load 14 none (some 1000) (.t 13), none),
      (.p 6 .id [.t 14], none)]))
   (.seq (.kill [0, 1, 6] [1000] (.region [
       (.p 16 .id [.t 0], none),
       (.call 17 56 [.t 16] [1000] [] [], none),
       (.p 15 .id [.t 17], none),
       (.p 18 (.ext 0) [.t 15], none),
       (.p 19 (.ext 1) [.t 15], none),
       (.p 7 .id [.t 18], none),
       (.p 8 .id [.t 19], none)]))
    (.seq (.seq (.kill [0, 1, 6, 7, 8] [1000] (.region [
         (.p 20 .id [.t 8], none),
         (.p 21 (.bin .neq) [.t 20, .c (.pv (.int .i64 0))], none)]))
      (.cond (.t 21)
       (.seq (.kill [0, 8] [1000] (.region [
           (.p 22 .id [.t 8], none),
           (.p 4 .id [.c (.pv (.int .i64 0))], none),
           (.p 5 .id [.t 22], none)]))
        .ret)
       .skip))
     (.seq (.seq (.kill [0, 1, 6, 7] [1000] (.region [
          (.p 23 .id [.t 1], none),
          (.p 24 (.bin .lss) [.t 23, .c (.pv (.int .i64 0))], none),
          (.p 25 .id [.t 24], none),
          (.p 26 .id [.t 7], some (25, false)),
          (.p 27 .id [.t 1], some (25, false)),
          (.p 28 (.conv .u64) [.t 27], some (25, false)),
          (.p 29 (.bin .gtr) [.t 26, .t 28], some (25, false)),
          (.p 30 .pick [.t 25, .c (.pv (.bool true)), .t 29], none)]))
       (.cond (.t 30)
        (.seq (.kill [0, 6] [1000] (.region [
            (.p 31 .id [.t 0], none),
            (.p 32 .id [.t 6], none),
            (.p 33 .nilc [.t 31], none),
            (.p 34 (.fieldAddr 1) [.t 33], none),
            (.store none (some 1000) (.t 34) (.t 32), none)]))
         (.seq (.kill [0] [1000] (.region [
             (.p 4 .id [.c (.pv (.int .i64 0))], none),
             (.p 5 .id [.c (.pv (.int .i64 3))], none)]))
          .ret))
        .skip))
      (.seq (.kill [0, 7] [1000] (.region [
          (.p 35 .id [.t 7], none),
          (.p 36 (.conv .i64) [.t 35], none),
          (.p 4 .id [.t 36], none),
          (.p 5 .id [.c (.pv (.int .i64 0))], none)]))
       .ret)))))))
theorem okNumsReaderCount : okFn Try.prog Try.f45 irNumsReaderCount [.t 4, .t 5] [] 2 = true := by kernel_rfl

-- nums.Reader.Text
-- nums.Reader.Text: args [63, 3]; lent [0]; rs [.t 4, .t 5]; loops: 
def irNumsReaderText : IR := (.seq (.region [
    (.p 4 .id [.c (.os 5 1 [])], none),
    (.p 5 .id [.c (.pv (.int .i64 0))], none)])
 (.seq (.seq (.kill [0, 1] [1000] (.region [
      (.p 9 .id [.t 0], none),
      (.p 10 (.peq false) [.t 9, .c (.pv .nilp)], none)]))
   (.cond (.t 10)
    (.seq (.kill [0] [1000] (.region [
        (.p 4 .id [.c (.os 5 1 [])], none),
        (.p 5 .id [.c (.pv (.int .i64 16))], none)]))
     .ret)
    .skip))
  (.seq (.kill [0, 1] [1000] (.region [
      (.p 11 .id [.t 0], none),
      (.p 12 .nilc [.t 11], none),
      (.p 13 (.fieldAddr 1) [.t 12], none),
      (.load 14 none (some 1000) (.t 13), none),
      (.p 6 .id [.t 14], none)]))
   (.seq (.kill [0, 1, 6] [1000] (.region [
       (.p 16 .id [.t 0], none),
       (.p 17 .id [.t 1], none),
       (.call 18 45 [.t 16, .t 17] [1000] [] [], none),
       (.p 15 .id [.t 18], none),
       (.p 19 (.ext 0) [.t 15], none),
       (.p 20 (.ext 1) [.t 15], none),
       (.p 7 .id [.t 19], none),
       (.p 8 .id [.t 20], none)]))
    (.seq (.seq (.kill [0, 6, 7, 8] [1000] (.region [
         (.p 21 .id [.t 8], none),
         (.p 22 (.bin .neq) [.t 21, .c (.pv (.int .i64 0))], none)]))
      (.cond (.t 22)
       (.seq (.kill [0, 8] [1000] (.region [
           (.p 23 .id [.t 8], none),
           (.p 4 .id [.c (.os 5 1 [])], none),
           (.p 5 .id [.t 23], none)]))
        .ret)
       .skip))
     (.seq (.seq (.kill [0, 6, 7] [1000] (.region [
          (.p 24 .id [.t 7], none),
          (.p 25 .id [.t 0], none),
          (.call 26 30 [.t 25] [1000] [] [], none),
          (.p 27 (.bin .gtr) [.t 24, .t 26], none)]))
       (.cond (.t 27)
        (.seq (.kill [0, 6] [1000] (.region [
            (.p 28 .id [.t 0], none),
            (.p 29 .id [.t 6], none),
            (.p 30 .nilc [.t 28], none),
            (.p 31 (.fieldAddr 1) [.t 30], none),
            (.store none (some 1000) (.t 31) (.t 29), none)]))
         (.seq (.kill [0] [1000] (.region [
             (.p 4 .id [.c (.os 5 1 [])], none),
             (.p 5 .id [.c (.pv (.int .i64 1))], none)]))
          .ret))
        .skip))
      (.seq (.kill [0, 7] [1000] (.region [
          (.p 32 .id [.t 0], none),
          (.p 33 .nilc [.t 32], none),
          (.p 34 (.fieldAddr 1) [.t 33], none),
          (.load 35 none (some 1000) (.t 34), none),
          (.p 36 .id [.t 7], none),
          (.p 37 (.bin .add) [.t 35, .t 36], none),
          (.p 38 .nilc [.t 32], none),
          (.p 39 (.fieldAddr 1) [.t 38], none),
          (.store none (some 1000) (.t 39) (.t 37), none)]))
       (.seq (.kill [0, 7] [1000] (.region [
           (.p 40 .id [.t 0], none),
           (.p 41 .nilc [.t 40], none),
           (.p 42 (.fieldAddr 0) [.t 41], none),
           (.load 43 none (some 1000) (.t 42), none),
           (.p 44 .id [.t 0], none),
           (.p 45 .nilc [.t 44], none),
           (.p 46 (.fieldAddr 1) [.t 45], none),
           (.load 47 none (some 1000) (.t 46), none),
           (.p 48 .id [.t 7], none),
           (.p 49 (.bin .sub) [.t 47, .t 48], none),
           (.p 50 .id [.t 0], none),
           (.p 51 .nilc [.t 50], none),
           (.p 52 (.fieldAddr 1) [.t 51], none),
           (.load 53 none (some 1000) (.t 52), none),
           (.p 54 (.slice none 1 true true) [.t 43, .t 49, .t 53], none),
           (.call 55 26 [.t 54] [] [] [], none),
           (.mv 4 55, none),
           (.p 5 .id [.c (.pv (.int .i64 0))], none)]))
        .ret))))))))
theorem okNumsReaderText : okFn Try.prog Try.f29 irNumsReaderText [.t 4, .t 5] [] 2 = true := by kernel_rfl

end Go.Proofs.Ytlbfpnckoblppaa
