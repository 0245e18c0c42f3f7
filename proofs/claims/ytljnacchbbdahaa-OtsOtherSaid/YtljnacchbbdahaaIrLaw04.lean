/- The abstract code of functions, printed by gen_ir.py out of the program's form in Lean; each is checked against it. -/
import Derived.Test.YtljnacchbbdahaaProg
import Derived.Test.YtljnacchbbdahaaAbs2
set_option linter.unusedVariables false
set_option linter.unusedSimpArgs false
set_option maxRecDepth 100000
namespace Go.Proofs.Ytljnacchbbdahaa
open Go.Abs
-- consistorylaw04.OtsSigns
-- consistorylaw04.OtsSigns: args [23, 3, 31]; lent []; rs [.t 6]; loops: 
def irLaw04OtsSigns : IR := (.seq (.region [
    (.rbox 3 (.t 0), none),
    (.p 6 .id [.c (.pv (.bool false))], none)])
 (.seq (.seq (.kill [1, 2, 3] [] (.region [
      (.call 11 7 [] [] [] [], none),
      (.p 12 (.un .not) [.t 11], none)]))
   (.cond (.t 12)
    (.seq (.kill [] [] (.region [
        (.p 6 .id [.c (.pv (.bool false))], none)]))
     .ret)
    .skip))
  (.seq (.seq (.kill [1, 2, 3] [] (.region [
       (.p 13 .id [.t 2], none),
       (.p 14 (.len none) [.t 13], none),
       (.p 15 (.bin .gtr) [.t 14, .c (.pv (.int .i64 500))], none)]))
    (.cond (.t 15)
     (.seq (.kill [] [] (.region [
         (.p 6 .id [.c (.pv (.bool true))], none)]))
      .ret)
     .skip))
   (.seq (.kill [1, 2, 3] [] (.region [
       (.load 16 (some (32, true)) (some 9999) (.t 3), none),
       (.p 17 .id [.t 1], none),
       (.call 18 15 [.t 16, .t 17] [] [] [], none),
       (.load 19 (some (32, true)) (some 9999) (.t 3), none),
       (.p 20 .id [.t 1], none),
       (.bslice 21 5 1 0 [.int .u8 0] [], none),
       (.p 22 .id [.t 2], none),
       (.app 23 5 1 21 none (.t 22), none),
       (.call 24 17 [.t 19, .t 20, .t 23] [] [] [], none),
       (.alloc 7 (.pagg (List.replicate 32 (.int .u8 0))), none),
       (.store (some (32, true)) (some 7) (.t 7) (.t 18), none),
       (.mv 8 24, none)]))
    (.seq (.seq (.kill [1, 2, 3, 7, 8] [7] (.region [
         (.load 25 (some (32, true)) (some 7) (.t 7), none),
         (.load 26 (some (32, true)) (some 9999) (.t 3), none),
         (.p 27 .id [.t 1], none),
         (.call 28 16 [.t 26, .t 27] [] [] [], none),
         (.p 29 (.aeq true 32 .u8) [.t 25, .t 28], none),
         (.p 30 .id [.t 29], none),
         (.p 31 .id [.t 8], some (30, false)),
         (.load 32 (some (32, true)) (some 9999) (.t 3), some (30, false)),
         (.p 33 .id [.t 1], some (30, false)),
         (.p 34 .id [.t 2], some (30, false)),
         (.call 35 18 [.t 32, .t 33, .t 34] [] [] [], some (30, false)),
         (.call 36 13 [.t 31, .t 35] [] [] [], some (30, false)),
         (.p 37 (.un .not) [.t 36], some (30, false)),
         (.p 38 .pick [.t 30, .c (.pv (.bool true)), .t 37], none)]))
      (.cond (.t 38)
       (.seq (.kill [] [] (.region [
           (.p 6 .id [.c (.pv (.bool false))], none)]))
        .ret)
       .skip))
     (.seq (.kill [2, 7, 8] [7] (.region [
         (.mv 40 2, none),
         (.mv 41 8, none),
         (.call 42 11 [.t 40, .t 41] [] [] [], none),
         (.p 39 .id [.t 42], none),
         (.p 43 (.ext 0) [.t 39], none),
         (.p 44 (.ext 1) [.t 39], none),
         (.alloc 9 (.pagg (List.replicate 32 (.int .u8 0))), none),
         (.store (some (32, true)) (some 9) (.t 9) (.t 43), none),
         (.p 10 .id [.t 44], none)]))
      (.seq (.kill [7, 9, 10] [7, 9] (.region [
          (.p 45 .id [.t 10], none),
          (.p 46 (.bin .eql) [.t 45, .c (.pv (.int .i64 0))], none),
          (.p 47 .id [.t 46], none),
          (.load 48 (some (32, true)) (some 9) (.t 9), some (47, true)),
          (.load 49 (some (32, true)) (some 7) (.t 7), some (47, true)),
          (.p 50 (.aeq false 32 .u8) [.t 48, .t 49], some (47, true)),
          (.p 51 .pick [.t 47, .t 50, .c (.pv (.bool false))], none),
          (.p 6 .id [.t 51], none)]))
       .ret)))))))
theorem okLaw04OtsSigns : okFn Try.prog Try.f6 irLaw04OtsSigns [.t 6] [] 3 = true := by kernel_rfl

-- consistorylaw04.OtsRecovers
-- consistorylaw04.OtsRecovers: args [31, 31]; lent []; rs [.t 4]; loops: 
def irLaw04OtsRecovers : IR := (.seq (.region [
    (.p 4 .id [.c (.pv (.bool false))], none)])
 (.seq (.seq (.kill [0, 1] [] (.region [
      (.call 10 7 [] [] [] [], none),
      (.p 11 (.un .not) [.t 10], none)]))
   (.cond (.t 11)
    (.seq (.kill [] [] (.region [
        (.p 4 .id [.c (.pv (.bool false))], none)]))
     .ret)
    .skip))
  (.seq (.seq (.kill [0, 1] [] (.region [
       (.p 12 .id [.t 0], none),
       (.p 13 (.len none) [.t 12], none),
       (.p 14 (.bin .gtr) [.t 13, .c (.pv (.int .i64 500))], none),
       (.p 15 .id [.t 14], none),
       (.p 16 .id [.t 1], some (15, false)),
       (.p 17 (.len none) [.t 16], some (15, false)),
       (.p 18 (.bin .gtr) [.t 17, .c (.pv (.int .i64 2000))], some (15, false)),
       (.p 19 .pick [.t 15, .c (.pv (.bool true)), .t 18], none)]))
    (.cond (.t 19)
     (.seq (.kill [] [] (.region [
         (.p 4 .id [.c (.pv (.bool true))], none)]))
      .ret)
     .skip))
   (.seq (.kill [0, 1] [] (.region [
       (.bslice 20 5 1 0 [.int .u8 0] [], none),
       (.p 21 .id [.t 1], none),
       (.app 22 5 1 20 none (.t 21), none),
       (.mv 5 22, none)]))
    (.seq (.kill [0, 1, 5] [] (.region [
        (.p 24 .id [.t 0], none),
        (.p 25 .id [.t 5], none),
        (.call 26 11 [.t 24, .t 25] [] [] [], none),
        (.p 23 .id [.t 26], none),
        (.p 27 (.ext 0) [.t 23], none),
        (.p 28 (.ext 1) [.t 23], none),
        (.alloc 6 (.pagg (List.replicate 32 (.int .u8 0))), none),
        (.store (some (32, true)) (some 6) (.t 6) (.t 27), none),
        (.p 7 .id [.t 28], none)]))
     (.seq (.kill [0, 1, 5, 6, 7] [6] (.region [
         (.mv 30 0, none),
         (.p 31 .id [.t 1], none),
         (.call 32 12 [.t 30, .t 31] [] [] [], none),
         (.p 29 .id [.t 32], none),
         (.p 33 (.ext 0) [.t 29], none),
         (.p 34 (.ext 1) [.t 29], none),
         (.alloc 8 (.pagg (List.replicate 32 (.int .u8 0))), none),
         (.store (some (32, true)) (some 8) (.t 8) (.t 33), none),
         (.p 9 .id [.t 34], none)]))
      (.seq (.kill [1, 5, 6, 7, 8, 9] [6, 8] (.region [
          (.load 35 (some (32, true)) (some 6) (.t 6), none),
          (.load 36 (some (32, true)) (some 8) (.t 8), none),
          (.p 37 (.aeq false 32 .u8) [.t 35, .t 36], none),
          (.p 38 .id [.t 37], none),
          (.p 39 .id [.t 7], some (38, true)),
          (.p 40 .id [.t 9], some (38, true)),
          (.p 41 (.bin .eql) [.t 39, .t 40], some (38, true)),
          (.p 42 .pick [.t 38, .t 41, .c (.pv (.bool false))], none),
          (.p 43 .id [.t 42], none),
          (.mv 44 5, some (43, true)),
          (.mv 45 1, some (43, true)),
          (.call 46 13 [.t 44, .t 45] [] [] [], some (43, true)),
          (.p 47 .pick [.t 43, .t 46, .c (.pv (.bool false))], none),
          (.p 4 .id [.t 47], none)]))
       .ret)))))))
theorem okLaw04OtsRecovers : okFn Try.prog Try.f4 irLaw04OtsRecovers [.t 4] [] 2 = true := by kernel_rfl

-- consistorylaw04.OtsOther
-- consistorylaw04.OtsOther: args [23, 3, 3]; lent []; rs [.t 6]; loops: 
def irLaw04OtsOther : IR := (.seq (.region [
    (.rbox 3 (.t 0), none),
    (.p 6 .id [.c (.pv (.bool false))], none)])
 (.seq (.seq (.kill [1, 2, 3] [] (.region [
      (.call 9 7 [] [] [] [], none),
      (.p 10 (.un .not) [.t 9], none)]))
   (.cond (.t 10)
    (.seq (.kill [] [] (.region [
        (.p 6 .id [.c (.pv (.bool false))], none)]))
     .ret)
    .skip))
  (.seq (.kill [1, 2, 3] [] (.region [
      (.p 11 .id [.t 1], none),
      (.p 12 (.conv .u64) [.t 11], none),
      (.call 13 14 [.t 12, .c (.pv (.int .i64 8))] [] [] [], none),
      (.p 14 .id [.t 2], none),
      (.p 15 (.conv .u64) [.t 14], none),
      (.call 16 14 [.t 15, .c (.pv (.int .i64 8))] [] [] [], none),
      (.mv 7 13, none),
      (.mv 8 16, none)]))
   (.seq (.seq (.kill [1, 2, 3, 7, 8] [] (.region [
        (.p 17 .id [.t 1], none),
        (.p 18 .id [.t 2], none),
        (.p 19 (.bin .neq) [.t 17, .t 18], none),
        (.p 20 .id [.t 19], none),
        (.mv 21 7, some (20, true)),
        (.mv 22 8, some (20, true)),
        (.call 23 13 [.t 21, .t 22] [] [] [], some (20, true)),
        (.p 24 .pick [.t 20, .t 23, .c (.pv (.bool false))], none)]))
     (.cond (.t 24)
      (.seq (.kill [] [] (.region [
          (.p 6 .id [.c (.pv (.bool false))], none)]))
       .ret)
      .skip))
    (.seq (.kill [1, 2, 3] [] (.region [
        (.load 25 (some (32, true)) (some 9999) (.t 3), none),
        (.p 26 .id [.t 1], none),
        (.call 27 15 [.t 25, .t 26] [] [] [], none),
        (.load 28 (some (32, true)) (some 9999) (.t 3), none),
        (.p 29 .id [.t 1], none),
        (.call 30 16 [.t 28, .t 29] [] [] [], none),
        (.p 31 (.aeq false 32 .u8) [.t 27, .t 30], none),
        (.p 32 .id [.t 31], none),
        (.p 33 .id [.t 1], some (32, true)),
        (.p 34 .id [.t 2], some (32, true)),
        (.p 35 (.bin .neq) [.t 33, .t 34], some (32, true)),
        (.p 36 .id [.t 35], some (32, true)),
        (.load 37 (some (32, true)) (some 9999) (.t 3), some (36, false)),
        (.p 38 .id [.t 2], some (36, false)),
        (.call 39 15 [.t 37, .t 38] [] [] [], some (36, false)),
        (.load 40 (some (32, true)) (some 9999) (.t 3), some (36, false)),
        (.p 41 .id [.t 1], some (36, false)),
        (.call 42 15 [.t 40, .t 41] [] [] [], some (36, false)),
        (.p 43 (.aeq false 32 .u8) [.t 39, .t 42], some (36, false)),
        (.p 44 .pick [.t 36, .c (.pv (.bool true)), .t 43], some (32, true)),
        (.p 45 .pick [.t 32, .t 44, .c (.pv (.bool false))], none),
        (.p 6 .id [.t 45], none)]))
     .ret)))))
theorem okLaw04OtsOther : okFn Try.prog Try.f5 irLaw04OtsOther [.t 6] [] 3 = true := by kernel_rfl

end Go.Proofs.Ytljnacchbbdahaa
