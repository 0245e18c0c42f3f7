/- The abstract code of functions, printed by gen_ir.py out of the program's form in Lean; each is checked against it. -/
import Derived.Test.YtlmjhnlhgmabpaaProg
import Derived.Test.YtlmjhnlhgmabpaaAbs2
set_option linter.unusedVariables false
set_option linter.unusedSimpArgs false
set_option maxRecDepth 100000
namespace Go.Proofs.Ytlmjhnlhgmabpaa
open Go.Abs
-- mac.Derive
-- mac.Derive: args [23, 3, 3]; lent []; rs [.t 6]; loops: 
def irMacDerive : IR := (.seq (.region [
    (.box 3 (.t 0), none),
    (.p 6 .id [.c (.os 5 1 [])], none)])
 (.seq (.kill [1, 2, 3] [3] (.region [
     (.p 9 (.slice (some 32) 1 false false) [.t 3], none),
     (.p 10 .id [.t 1], none),
     (.p 11 (.conv .u64) [.t 10], none),
     (.call 12 33 [.t 9, .t 11, .c (.pv (.int .i64 8))] [] [] [3], none),
     (.mv 7 12, none)]))
  (.seq (.kill [2, 7] [] (.region [
      (.mv 13 7, none),
      (.p 14 .id [.t 2], none),
      (.p 15 (.conv .u64) [.t 14], none),
      (.call 16 33 [.t 13, .t 15, .c (.pv (.int .i64 8))] [] [] [], none),
      (.call 17 34 [.t 16] [] [] [], none),
      (.alloc 8 (.pagg (List.replicate 32 (.int .u8 0))), none),
      (.store (some (32, true)) (some 8) (.t 8) (.t 17), none)]))
   (.seq (.kill [8] [8] (.region [
       (.p 18 (.slice (some 32) 1 false false) [.t 8], none),
       (.mv 6 18, none)]))
    .ret))))
theorem okMacDerive : okFn Try.prog Try.f19 irMacDerive [.t 6] [] 3 = true := by kernel_rfl

-- consistoryref03.Derive
-- consistoryref03.Derive: args [23, 3, 3]; lent []; rs [.t 6]; loops: 
def irRef03Derive : IR := (.seq (.region [
    (.box 3 (.t 0), none),
    (.p 6 .id [.c (.os 5 1 [])], none)])
 (.seq (.kill [1, 2, 3] [3] (.region [
     (.load 8 (some (32, true)) (some 3) (.t 3), none),
     (.call 9 22 [.t 8] [] [] [], none),
     (.mv 7 9, none)]))
  (.seq (.kill [1, 2, 7] [] (.region [
      (.mv 10 7, none),
      (.p 11 .id [.t 1], none),
      (.p 12 (.conv .u64) [.t 11], none),
      (.call 13 23 [.t 12, .c (.pv (.int .i64 8))] [] [] [], none),
      (.app 14 5 1 10 none (.t 13), none),
      (.mv 7 14, none)]))
   (.seq (.kill [2, 7] [] (.region [
       (.mv 15 7, none),
       (.p 16 .id [.t 2], none),
       (.p 17 (.conv .u64) [.t 16], none),
       (.call 18 23 [.t 17, .c (.pv (.int .i64 8))] [] [] [], none),
       (.app 19 5 1 15 none (.t 18), none),
       (.mv 7 19, none)]))
    (.seq (.kill [7] [] (.region [
        (.mv 20 7, none),
        (.call 21 24 [.t 20] [] [] [], none),
        (.call 22 22 [.t 21] [] [] [], none),
        (.mv 6 22, none)]))
     .ret)))))
theorem okRef03Derive : okFn Try.prog Try.f13 irRef03Derive [.t 6] [] 3 = true := by kernel_rfl

end Go.Proofs.Ytlmjhnlhgmabpaa
