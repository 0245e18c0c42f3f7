/- The abstract code of functions, printed by gen_ir.py out of the program's form in Lean; each is checked against it. -/
import Derived.Test.YtlbfpnckoblppaaProg
import Derived.Test.YtlbfpnckoblppaaIrDisk2
set_option linter.unusedVariables false
set_option linter.unusedSimpArgs false
set_option maxRecDepth 100000
namespace Go.Proofs.Ytlbfpnckoblppaa
open Go.Abs
-- disk.Disk.Append
-- disk.Disk.Append: args [24, 9, 22]; lent [0, None, None]; rs [.t 6]; loops: 
def irDiskDiskAppend : IR := (.seq (.region [
    (.p 6 .id [.c (.pv (.int .i64 0))], none)])
 (.seq (.block 0 (.seq (.kill [0, 1, 2] [1000, 1001, 1002] (.region [
       (.p 8 .id [.t 0], none),
       (.p 9 (.peq false) [.t 8, .c (.pv .nilp)], none),
       (.p 7 .id [.t 9], none)]))
    (.cond (.t 7)
     (.seq (.kill [0] [1000, 1001, 1002] (.region [
         (.p 6 .id [.c (.pv (.int .i64 16))], none)]))
      .ret)
     (.seq (.kill [0, 1, 2] [1000, 1001, 1002] (.region [
         (.p 11 .id [.t 0], none),
         (.p 12 .nilc [.t 11], none),
         (.p 13 (.fieldAddr 5) [.t 12], none),
         (.load 14 none (some 1000) (.t 13), none),
         (.p 10 .id [.t 14], none)]))
      (.cond (.t 10)
       (.seq (.kill [0] [1000, 1001, 1002] (.region [
           (.p 6 .id [.c (.pv (.int .i64 14))], none)]))
        .ret)
       (.seq (.kill [0, 1, 2] [1000, 1001, 1002] (.region [
           (.p 16 .id [.t 1], none),
           (.call 17 23 [.t 16] [] [] [], none),
           (.p 18 (.un .not) [.t 17], none),
           (.p 15 .id [.t 18], none)]))
        (.cond (.t 15)
         (.seq (.kill [0] [1000, 1001, 1002] (.region [
             (.p 6 .id [.c (.pv (.int .i64 15))], none)]))
          .ret)
         (.seq (.kill [0, 1, 2] [1000, 1001, 1002] (.region [
             (.p 20 .id [.t 0], none),
             (.p 21 .id [.t 2], none),
             (.p 22 (.len none) [.t 21], none),
             (.call 23 24 [.t 20, .t 22, .c (.pv (.int .i64 0))] [1000, 1001, 1002] [] [], none),
             (.p 24 (.un .not) [.t 23], none),
             (.p 19 .id [.t 24], none)]))
          (.cond (.t 19)
           (.seq (.kill [0] [1000, 1001, 1002] (.region [
               (.p 6 .id [.c (.pv (.int .i64 4))], none)]))
            .ret)
           .skip)))))))))
  (.seq (.kill [0, 1, 2] [1000, 1001, 1002] (.region [
      (.p 25 .id [.t 0], none),
      (.p 26 .id [.t 1], none),
      (.mv 27 2, none),
      (.call 28 26 [.t 27] [] [] [], none),
      (.build 29 (.pagg [.int .i64 0, .str .empty, .str .empty, .sl 1 []]) [(0, 1, .c (.pv (.int .i64 1))), (1, 1, .t 26), (3, 1, .t 28)], none),
      (.call 30 25 [.t 25, .t 29] [1000, 1001, 1002] [] [], none),
      (.p 6 .id [.t 30], none)]))
   .ret)))
theorem okDiskDiskAppend : okFn Try.prog Try.f22 irDiskDiskAppend [.t 6] [] 3 = true := by kernel_rfl

def strLaw12SnapsCrash_1 : ByteArray := ⟨#[115, 116, 97, 116, 101]⟩
def irC_L1a : IR := (.seq (.kill [1, 5, 7, 8, 9, 27, 28, 29] [5, 26, 526, 626] (.region [
     (.p 30 (.bin .lss) [.t 29, .t 28], none)]))
  (.seq (.cond (.t 30)
    .skip
    (.exit 0))
   (.seq (.block 1 (.seq (.kill [1, 5, 7, 27, 28, 29] [5, 26, 526, 626] (.region [
         (.p 31 (.indexAddr none 1) [.t 27, .t 29], none),
         (.load 32 none (some 9999) (.t 31), none),
         (.mv 11 32, none)]))
      (.seq (.seq (.kill [1, 5, 7, 11, 27, 28, 29] [5, 26, 526, 626] (.region [
           (.p 33 .id [.t 11], none),
           (.p 34 (.len none) [.t 33], none),
           (.p 35 (.bin .gtr) [.t 34, .c (.pv (.int .i64 500))], none)]))
        (.cond (.t 35)
         (.seq (.kill [] [] (.region [
             (.p 6 .id [.c (.pv (.bool true))], none)]))
          .ret)
         .skip))
       (.seq (.seq (.kill [1, 5, 7, 11, 27, 28, 29] [5, 26, 526, 626] (.region [
            (.p 36 .id [.t 7], none),
            (.p 37 .id [.t 11], none),
            (.call 38 15 [.t 36, .c (.pv (.str strLaw12SnapsCrash_1)), .t 37] [26, 526, 626] [726, 826] [], none),
            (.p 39 (.bin .neq) [.t 38, .c (.pv (.int .i64 0))], none)]))
         (.cond (.t 39)
          (.seq (.kill [] [] (.region [
              (.p 6 .id [.c (.pv (.bool false))], none)]))
           .ret)
          .skip))
        (.kill [1, 5, 7, 11, 27, 28, 29] [5, 26, 726, 826] (.region [
           (.mv 40 11, none),
           (.mv 8 40, none),
           (.p 9 .id [.c (.pv (.int .i64 0))], none)]))))))
    (.kill [1, 5, 7, 8, 9, 27, 28, 29] [5, 26, 726, 826] (.region [
       (.p 41 (.bin .add) [.t 29, .c (.pv (.int .i64 1))], none),
       (.p 29 .id [.t 41], none)])))))
def irC_L1b : IR := (.seq (.kill [1, 5, 7, 8, 9, 27, 28, 29] [5, 26, 726, 826] (.region [
     (.p 30 (.bin .lss) [.t 29, .t 28], none)]))
  (.seq (.cond (.t 30)
    .skip
    (.exit 0))
   (.seq (.block 1 (.seq (.kill [1, 5, 7, 27, 28, 29] [5, 26, 726, 826] (.region [
         (.p 31 (.indexAddr none 1) [.t 27, .t 29], none),
         (.load 32 none (some 9999) (.t 31), none),
         (.mv 11 32, none)]))
      (.seq (.seq (.kill [1, 5, 7, 11, 27, 28, 29] [5, 26, 726, 826] (.region [
           (.p 33 .id [.t 11], none),
           (.p 34 (.len none) [.t 33], none),
           (.p 35 (.bin .gtr) [.t 34, .c (.pv (.int .i64 500))], none)]))
        (.cond (.t 35)
         (.seq (.kill [] [] (.region [
             (.p 6 .id [.c (.pv (.bool true))], none)]))
          .ret)
         .skip))
       (.seq (.seq (.kill [1, 5, 7, 11, 27, 28, 29] [5, 26, 726, 826] (.region [
            (.p 36 .id [.t 7], none),
            (.p 37 .id [.t 11], none),
            (.call 38 15 [.t 36, .c (.pv (.str strLaw12SnapsCrash_1)), .t 37] [26, 726, 826] [526, 626] [], none),
            (.p 39 (.bin .neq) [.t 38, .c (.pv (.int .i64 0))], none)]))
         (.cond (.t 39)
          (.seq (.kill [] [] (.region [
              (.p 6 .id [.c (.pv (.bool false))], none)]))
           .ret)
          .skip))
        (.kill [1, 5, 7, 11, 27, 28, 29] [5, 26, 526, 626] (.region [
           (.mv 40 11, none),
           (.mv 8 40, none),
           (.p 9 .id [.c (.pv (.int .i64 0))], none)]))))))
    (.kill [1, 5, 7, 8, 9, 27, 28, 29] [5, 26, 526, 626] (.region [
       (.p 41 (.bin .add) [.t 29, .c (.pv (.int .i64 1))], none),
       (.p 29 .id [.t 41], none)])))))
def irC_L1 : IR := .alt irC_L1a irC_L1b
def irC_L2a : IR := (.seq (.kill [5, 7, 8, 9, 42, 43, 44] [5, 26, 526, 626] (.region [
     (.p 45 (.bin .lss) [.t 44, .t 43], none)]))
  (.seq (.cond (.t 45)
    .skip
    (.exit 2))
   (.seq (.block 3 (.seq (.kill [5, 7, 8, 9, 42, 43, 44] [5, 26, 526, 626] (.region [
         (.p 46 (.indexAddr none 8) [.t 42, .t 44], none),
         (.load 47 (some (8, true)) (some 9999) (.t 46), none),
         (.alloc 13 (.agg [.pv (.int .i64 0), .pv (.str .empty), .pv (.str .empty), .os 5 1 [], .pv (.int .u64 0), .pv (.int .i64 0), .pv (.int .i64 0), .pv (.int .i64 0)]), none),
         (.store (some (8, true)) (some 13) (.t 13) (.t 47), none)]))
      (.seq (.seq (.kill [5, 7, 8, 9, 13, 42, 43, 44] [5, 13, 26, 526, 626] (.region [
           (.p 48 (.fieldAddr 3) [.t 13], none),
           (.load 49 none (some 13) (.t 48), none),
           (.p 50 (.len none) [.t 49], none),
           (.p 51 (.bin .gtr) [.t 50, .c (.pv (.int .i64 300))], none)]))
        (.cond (.t 51)
         (.seq (.kill [] [] (.region [
             (.p 6 .id [.c (.pv (.bool true))], none)]))
          .ret)
         .skip))
       (.seq (.kill [5, 7, 8, 9, 13, 42, 43, 44] [5, 13, 26, 526, 626] (.region [
           (.p 52 (.fieldAddr 1) [.t 13], none),
           (.load 53 none (some 13) (.t 52), none),
           (.p 54 (.sb .neq) [.t 53, .c (.pv (.str strLaw12SnapsCrash_1))], none),
           (.p 55 .id [.t 54], none),
           (.p 56 (.fieldAddr 2) [.t 13], some (55, true)),
           (.load 57 none (some 13) (.t 56), some (55, true)),
           (.p 58 (.sb .neq) [.t 57, .c (.pv (.str strLaw12SnapsCrash_1))], some (55, true)),
           (.p 59 .pick [.t 55, .t 58, .c (.pv (.bool false))], none)]))
        (.cond (.t 59)
         (.kill [5, 7, 8, 9, 13, 42, 43, 44] [5, 13, 26, 526, 626] (.region [
            (.p 60 .id [.t 7], none),
            (.p 61 (.fieldAddr 1) [.t 13], none),
            (.load 62 none (some 13) (.t 61), none),
            (.p 63 (.fieldAddr 3) [.t 13], none),
            (.load 64 none (some 13) (.t 63), none),
            (.call 65 22 [.t 60, .t 62, .t 64] [26, 526, 626] [] [], none)]))
         .skip)))))
    (.kill [5, 7, 8, 9, 42, 43, 44] [5, 26, 526, 626] (.region [
       (.p 66 (.bin .add) [.t 44, .c (.pv (.int .i64 1))], none),
       (.p 44 .id [.t 66], none)])))))
def irC_L2b : IR := (.seq (.kill [5, 7, 8, 9, 42, 43, 44] [5, 26, 726, 826] (.region [
     (.p 45 (.bin .lss) [.t 44, .t 43], none)]))
  (.seq (.cond (.t 45)
    .skip
    (.exit 2))
   (.seq (.block 3 (.seq (.kill [5, 7, 8, 9, 42, 43, 44] [5, 26, 726, 826] (.region [
         (.p 46 (.indexAddr none 8) [.t 42, .t 44], none),
         (.load 47 (some (8, true)) (some 9999) (.t 46), none),
         (.alloc 13 (.agg [.pv (.int .i64 0), .pv (.str .empty), .pv (.str .empty), .os 5 1 [], .pv (.int .u64 0), .pv (.int .i64 0), .pv (.int .i64 0), .pv (.int .i64 0)]), none),
         (.store (some (8, true)) (some 13) (.t 13) (.t 47), none)]))
      (.seq (.seq (.kill [5, 7, 8, 9, 13, 42, 43, 44] [5, 13, 26, 726, 826] (.region [
           (.p 48 (.fieldAddr 3) [.t 13], none),
           (.load 49 none (some 13) (.t 48), none),
           (.p 50 (.len none) [.t 49], none),
           (.p 51 (.bin .gtr) [.t 50, .c (.pv (.int .i64 300))], none)]))
        (.cond (.t 51)
         (.seq (.kill [] [] (.region [
             (.p 6 .id [.c (.pv (.bool true))], none)]))
          .ret)
         .skip))
       (.seq (.kill [5, 7, 8, 9, 13, 42, 43, 44] [5, 13, 26, 726, 826] (.region [
           (.p 52 (.fieldAddr 1) [.t 13], none),
           (.load 53 none (some 13) (.t 52), none),
           (.p 54 (.sb .neq) [.t 53, .c (.pv (.str strLaw12SnapsCrash_1))], none),
           (.p 55 .id [.t 54], none),
           (.p 56 (.fieldAddr 2) [.t 13], some (55, true)),
           (.load 57 none (some 13) (.t 56), some (55, true)),
           (.p 58 (.sb .neq) [.t 57, .c (.pv (.str strLaw12SnapsCrash_1))], some (55, true)),
           (.p 59 .pick [.t 55, .t 58, .c (.pv (.bool false))], none)]))
        (.cond (.t 59)
         (.kill [5, 7, 8, 9, 13, 42, 43, 44] [5, 13, 26, 726, 826] (.region [
            (.p 60 .id [.t 7], none),
            (.p 61 (.fieldAddr 1) [.t 13], none),
            (.load 62 none (some 13) (.t 61), none),
            (.p 63 (.fieldAddr 3) [.t 13], none),
            (.load 64 none (some 13) (.t 63), none),
            (.call 65 22 [.t 60, .t 62, .t 64] [26, 726, 826] [] [], none)]))
         .skip)))))
    (.kill [5, 7, 8, 9, 42, 43, 44] [5, 26, 726, 826] (.region [
       (.p 66 (.bin .add) [.t 44, .c (.pv (.int .i64 1))], none),
       (.p 44 .id [.t 66], none)])))))
def irC_Ra : IR :=
      (.seq (.seq (.kill [1, 5, 7, 8, 9] [5, 26, 526, 626] (.region [
           (.mv 42 1, none),
           (.p 43 (.len none) [.t 42], none),
           (.p 44 .id [.c (.pv (.int .i64 0))], none)]))
        (.block 2 (.loop (.kill [5, 7, 8, 9, 42, 43, 44] [5, 26, 526, 626] irC_L2a))))
       (.seq (.kill [5, 7, 8, 9] [5, 26, 526, 626] (.region [
           (.p 67 .id [.t 7], none),
           (.load 68 (some (3, true)) (some 5) (.t 5), none),
           (.call 69 21 [.t 67, .t 68] [26, 526, 626] [926] [], none)]))
        (.seq (.kill [7, 8, 9] [26, 526, 926] (.region [
            (.p 71 .id [.t 7], none),
            (.call 72 11 [.t 71, .c (.pv (.str strLaw12SnapsCrash_1))] [26, 526, 926] [] [], none),
            (.p 70 .id [.t 72], none),
            (.p 73 (.ext 0) [.t 70], none),
            (.p 74 (.ext 1) [.t 70], none),
            (.mv 14 73, none),
            (.p 15 .id [.t 74], none)]))
         (.seq (.kill [8, 9, 14, 15] [] (.region [
             (.p 75 .id [.t 15], none),
             (.p 76 .id [.t 9], none),
             (.p 77 (.bin .eql) [.t 75, .t 76], none),
             (.p 78 .id [.t 77], none),
             (.mv 79 14, some (78, true)),
             (.mv 80 8, some (78, true)),
             (.call 81 14 [.t 79, .t 80] [] [] [], some (78, true)),
             (.p 82 .pick [.t 78, .t 81, .c (.pv (.bool false))], none),
             (.p 6 .id [.t 82], none)]))
          .ret))))
def irC_Rb : IR :=
      (.seq (.seq (.kill [1, 5, 7, 8, 9] [5, 26, 726, 826] (.region [
           (.mv 42 1, none),
           (.p 43 (.len none) [.t 42], none),
           (.p 44 .id [.c (.pv (.int .i64 0))], none)]))
        (.block 2 (.loop (.kill [5, 7, 8, 9, 42, 43, 44] [5, 26, 726, 826] irC_L2b))))
       (.seq (.kill [5, 7, 8, 9] [5, 26, 726, 826] (.region [
           (.p 67 .id [.t 7], none),
           (.load 68 (some (3, true)) (some 5) (.t 5), none),
           (.call 69 21 [.t 67, .t 68] [26, 726, 826] [926] [], none)]))
        (.seq (.kill [7, 8, 9] [26, 726, 926] (.region [
            (.p 71 .id [.t 7], none),
            (.call 72 11 [.t 71, .c (.pv (.str strLaw12SnapsCrash_1))] [26, 726, 926] [] [], none),
            (.p 70 .id [.t 72], none),
            (.p 73 (.ext 0) [.t 70], none),
            (.p 74 (.ext 1) [.t 70], none),
            (.mv 14 73, none),
            (.p 15 .id [.t 74], none)]))
         (.seq (.kill [8, 9, 14, 15] [] (.region [
             (.p 75 .id [.t 15], none),
             (.p 76 .id [.t 9], none),
             (.p 77 (.bin .eql) [.t 75, .t 76], none),
             (.p 78 .id [.t 77], none),
             (.mv 79 14, some (78, true)),
             (.mv 80 8, some (78, true)),
             (.call 81 14 [.t 79, .t 80] [] [] [], some (78, true)),
             (.p 82 .pick [.t 78, .t 81, .c (.pv (.bool false))], none),
             (.p 6 .id [.t 82], none)]))
          .ret))))
def irC : IR := (.seq (.region [
    (.box 5 (.t 2), none),
    (.p 6 .id [.c (.pv (.bool false))], none)])
 (.seq (.seq (.kill [0, 1, 5] [5] (.region [
      (.call 16 8 [] [] [] [], none),
      (.p 17 (.un .not) [.t 16], none)]))
   (.cond (.t 17)
    (.seq (.kill [] [] (.region [
        (.p 6 .id [.c (.pv (.bool false))], none)]))
     .ret)
    .skip))
  (.seq (.seq (.kill [0, 1, 5] [5] (.region [
       (.p 18 .id [.t 0], none),
       (.p 19 (.len none) [.t 18], none),
       (.p 20 (.bin .gtr) [.t 19, .c (.pv (.int .i64 12))], none),
       (.p 21 .id [.t 20], none),
       (.p 22 .id [.t 1], some (21, false)),
       (.p 23 (.len none) [.t 22], some (21, false)),
       (.p 24 (.bin .gtr) [.t 23, .c (.pv (.int .i64 20))], some (21, false)),
       (.p 25 .pick [.t 21, .c (.pv (.bool true)), .t 24], none)]))
    (.cond (.t 25)
     (.seq (.kill [] [] (.region [
         (.p 6 .id [.c (.pv (.bool true))], none)]))
      .ret)
     .skip))
   (.seq (.kill [0, 1, 5] [5] (.region [
       (.call 26 9 [.c (.pv (.int .i64 131072))] [] [26, 526, 626] [], none),
       (.p 7 .id [.t 26], none)]))
    (.seq (.kill [0, 1, 5, 7] [5, 26, 526, 626] (.region [
        (.p 8 .id [.c (.pv (.sl 1 []))], none),
        (.p 9 .id [.c (.pv (.int .i64 13))], none)]))
     (.seq (.seq (.kill [0, 1, 5, 7, 8, 9] [5, 26, 526, 626] (.region [
          (.mv 27 0, none),
          (.p 28 (.len none) [.t 27], none),
          (.p 29 .id [.c (.pv (.int .i64 0))], none)]))
       (.block 0 (.loop (.kill [1, 5, 7, 8, 9, 27, 28, 29] [5, 26, 526, 626, 726, 826] irC_L1))))
      (.alt irC_Ra irC_Rb)))))))
theorem okC : okFn Try.prog Try.f7 irC [.t 6] [] 3 = true := by kernel_rfl

end Go.Proofs.Ytlbfpnckoblppaa
