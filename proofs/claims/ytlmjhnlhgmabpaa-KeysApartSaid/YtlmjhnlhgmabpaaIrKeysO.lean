/- The abstract code of functions, printed by gen_ir.py out of the program's form in Lean; each is checked against it. -/
import Derived.Test.YtlmjhnlhgmabpaaProg
import Derived.Test.YtlmjhnlhgmabpaaIrKeys
set_option linter.unusedVariables false
set_option linter.unusedSimpArgs false
set_option maxRecDepth 100000
namespace Go.Proofs.Ytlmjhnlhgmabpaa
open Go.Abs
-- consistorylaw05.KeysApart
-- consistorylaw05.KeysApart: args [23, 33, 5]; lent []; rs [.t 6]; loops: 
def irKeysApartO : IR := (.seq (.region [
    (.box 3 (.t 0), none),
    (.p 6 .id [.c (.pv (.bool false))], none)])
 (.seq (.seq (.kill [1, 2, 3] [3] (.region [
      (.call 15 7 [] [] [] [], none),
      (.p 16 (.un .not) [.t 15], none)]))
   (.cond (.t 16)
    (.seq (.kill [] [] (.region [
        (.p 6 .id [.c (.pv (.bool false))], none)]))
     .ret)
    .skip))
  (.seq (.seq (.kill [1, 2, 3] [3] (.region [
       (.p 17 .id [.t 1], none),
       (.p 18 (.len none) [.t 17], none),
       (.p 19 (.bin .gtr) [.t 18, .c (.pv (.int .i64 300))], none)]))
    (.cond (.t 19)
     (.seq (.kill [] [] (.region [
         (.p 6 .id [.c (.pv (.bool true))], none)]))
      .ret)
     .skip))
   (.seq (.kill [1, 2, 3] [3] (.region [
       (.load 20 (some (32, true)) (some 3) (.t 3), none),
       (.p 21 .id [.t 2], none),
       (.p 22 (.conv .i64) [.t 21], none),
       (.p 23 (.bin .rem) [.t 22, .c (.pv (.int .i64 8))], none),
       (.p 24 .id [.t 1], none),
       (.call 25 16 [.t 20, .t 23, .t 24] [] [25] [], none),
       (.mv 7 25, none)]))
    (.seq (.kill [1, 2, 7] [25] (.region [
        (.p 26 .id [.t 7], none),
        (.p 27 .id [.t 2], none),
        (.p 28 (.conv .i64) [.t 27], none),
        (.p 29 (.slice none 1 false true) [.t 26, .t 28], none),
        (.mv 8 29, none)]))
     (.seq (.kill [1, 2, 7, 8] [25] (.region [
         (.build 31 (.pagg (List.replicate 32 (.int .u8 0))) [], none),
         (.p 32 .id [.t 1], none),
         (.mv 33 8, none),
         (.call 34 14 [.t 31, .t 32, .t 33] [] [] [25], none),
         (.p 30 .id [.t 34], none),
         (.p 35 (.ext 0) [.t 30], none),
         (.p 36 (.ext 1) [.t 30], none),
         (.p 9 .id [.t 35], none),
         (.p 10 .id [.t 36], none)]))
      (.seq (.kill [1, 2, 7, 10] [25] (.region [
          (.p 37 .id [.t 7], none),
          (.p 38 .id [.t 2], none),
          (.p 39 (.indexAddr none 1) [.t 37, .c (.pv (.int .i64 0))], none),
          (.store none (some 25) (.t 39) (.t 38), none)]))
       (.seq (.kill [1, 2, 7, 10] [25] (.region [
           (.build 41 (.pagg (List.replicate 32 (.int .u8 0))) [], none),
           (.p 42 .id [.t 1], none),
           (.p 43 .id [.t 7], none),
           (.call 44 14 [.t 41, .t 42, .t 43] [] [] [25], none),
           (.p 40 .id [.t 44], none),
           (.p 45 (.ext 0) [.t 40], none),
           (.p 46 (.ext 1) [.t 40], none),
           (.p 11 .id [.t 45], none),
           (.p 12 .id [.t 46], none)]))
        (.seq (.kill [1, 2, 7, 10, 11, 12] [25] (.region [
            (.build 48 (.pagg (List.replicate 32 (.int .u8 0))) [], none),
            (.mv 49 1, none),
            (.mv 50 7, none),
            (.call 51 15 [.t 48, .t 49, .t 50] [] [] [25], none),
            (.p 47 .id [.t 51], none),
            (.p 52 (.ext 0) [.t 47], none),
            (.p 53 (.ext 1) [.t 47], none),
            (.p 13 .id [.t 52], none),
            (.p 14 .id [.t 53], none)]))
         (.seq (.kill [2, 10, 11, 12, 13, 14] [] (.region [
             (.p 54 .id [.t 10], none),
             (.p 55 (.bin .eql) [.t 54, .c (.pv (.int .i64 2))], none),
             (.p 56 .id [.t 55], none),
             (.p 57 .id [.t 11], some (56, true)),
             (.p 58 .id [.t 13], some (56, true)),
             (.p 59 (.bin .eql) [.t 57, .t 58], some (56, true)),
             (.p 60 .pick [.t 56, .t 59, .c (.pv (.bool false))], none),
             (.p 61 .id [.t 60], none),
             (.p 62 .id [.t 12], some (61, true)),
             (.p 63 .id [.t 14], some (61, true)),
             (.p 64 (.bin .eql) [.t 62, .t 63], some (61, true)),
             (.p 65 .pick [.t 61, .t 64, .c (.pv (.bool false))], none),
             (.p 66 .id [.t 65], none),
             (.p 67 .id [.t 2], some (66, true)),
             (.p 68 (.bin .lss) [.t 67, .c (.pv (.int .u8 8))], some (66, true)),
             (.p 69 .id [.t 68], some (66, true)),
             (.p 70 .id [.t 12], some (69, false)),
             (.p 71 (.bin .eql) [.t 70, .c (.pv (.int .i64 2))], some (69, false)),
             (.p 72 .pick [.t 69, .c (.pv (.bool true)), .t 71], some (66, true)),
             (.p 73 .pick [.t 66, .t 72, .c (.pv (.bool false))], none),
             (.p 6 .id [.t 73], none)]))
          .ret))))))))))
theorem okKeysApartO : okFn Try.prog Try.f5 irKeysApartO [.t 6] [] 3 = true := by kernel_rfl

end Go.Proofs.Ytlmjhnlhgmabpaa
