/- The functions that this claim reaches, in short form; printed by a program of mine. -/
import Derived.Test.YtgoifophjcbpaaaBbG3
namespace Go.Bb
set_option maxRecDepth 20000
def h_bandboxlaw18_KnowSays : Hint := [(0, [0, 1, 2, 3], []), (1, [0, 1, 2, 3, 12], []), (2, [8], []), (3, [0, 1, 2, 3, 20], []), (4, [8], []), (5, [0, 1, 2, 3, 9], []), (6, [0, 1, 2, 3, 9, 10], []), (7, [8], [])]
def ir_bandboxlaw18_KnowSays : AFunc := ⟨4, 61, [.tmp 8],
 (.seq (.ops [
   ⟨(some 8), .mv (.c (.bool false)), none⟩] [0, 1, 2, 3])
 (.seq (.seq (.ops [
   ⟨(some 11), .call 15 [], none⟩,
   ⟨(some 12), .un .not (.t 11), none⟩] [0, 1, 2, 3, 12])
 (.cond (.t 12)
  (.seq (.ops [
    ⟨(some 8), .mv (.c (.bool false)), none⟩] [8])
  .ret)
  .skip))
 (.seq (.seq (.ops [
   ⟨(some 13), .mv (.t 0), none⟩,
   ⟨(some 14), .lenS (.t 13), none⟩,
   ⟨(some 15), .bin .gtr (.t 14) (.c (.int .i64 60)), none⟩,
   ⟨(some 16), .mv (.t 15), none⟩,
   ⟨(some 17), .mv (.t 1), (some (16, false))⟩,
   ⟨(some 18), .lenS (.t 17), (some (16, false))⟩,
   ⟨(some 19), .bin .gtr (.t 18) (.c (.int .i64 60)), (some (16, false))⟩,
   ⟨(some 20), .pick (.t 16) (.c (.bool true)) (.t 19), none⟩] [0, 1, 2, 3, 20])
 (.cond (.t 20)
  (.seq (.ops [
    ⟨(some 8), .mv (.c (.bool true)), none⟩] [8])
  .ret)
  .skip))
 (.seq (.ops [
   ⟨(some 21), .mv (.t 0), none⟩,
   ⟨(some 22), .mv (.t 1), none⟩,
   ⟨(some 23), .call 17 [.t 21, .t 22], none⟩,
   ⟨(some 9), .mv (.t 23), none⟩] [0, 1, 2, 3, 9])
 (.seq (.ops [
   ⟨(some 24), .mv (.t 0), none⟩,
   ⟨(some 25), .call 23 [.t 24], none⟩,
   ⟨(some 26), .mv (.t 1), none⟩,
   ⟨(some 27), .call 22 [.t 25, .t 26], none⟩,
   ⟨(some 10), .mv (.t 27), none⟩] [0, 1, 2, 3, 9, 10])
 (.seq (.ops [
   ⟨(some 28), .mv (.t 9), none⟩,
   ⟨(some 29), .mv (.t 10), none⟩,
   ⟨(some 30), .call 19 [.t 28, .t 29], none⟩,
   ⟨(some 31), .mv (.t 30), none⟩,
   ⟨(some 32), .mv (.t 0), (some (31, true))⟩,
   ⟨(some 33), .mv (.t 2), (some (31, true))⟩,
   ⟨(some 34), .mv (.t 1), (some (31, true))⟩,
   ⟨(some 35), .call 20 [.t 32, .t 33, .t 34], (some (31, true))⟩,
   ⟨(some 36), .mv (.t 10), (some (31, true))⟩,
   ⟨(some 37), .mv (.t 2), (some (31, true))⟩,
   ⟨(some 38), .call 18 [.t 36, .t 37], (some (31, true))⟩,
   ⟨(some 39), .eqv .bool false (.t 35) (.t 38), (some (31, true))⟩,
   ⟨(some 40), .pick (.t 31) (.t 39) (.c (.bool false)), none⟩,
   ⟨(some 41), .mv (.t 40), none⟩,
   ⟨(some 42), .mv (.t 0), (some (41, true))⟩,
   ⟨(some 43), .mv (.t 2), (some (41, true))⟩,
   ⟨(some 44), .mv (.t 3), (some (41, true))⟩,
   ⟨(some 45), .call 21 [.t 42, .t 43, .t 44], (some (41, true))⟩,
   ⟨(some 46), .mv (.t 0), (some (41, true))⟩,
   ⟨(some 47), .call 23 [.t 46], (some (41, true))⟩,
   ⟨(some 48), .mv (.t 2), (some (41, true))⟩,
   ⟨(some 49), .mv (.t 3), (some (41, true))⟩,
   ⟨(some 50), .call 24 [.t 47, .t 48, .t 49], (some (41, true))⟩,
   ⟨(some 51), .eqv .bool false (.t 45) (.t 50), (some (41, true))⟩,
   ⟨(some 52), .pick (.t 41) (.t 51) (.c (.bool false)), none⟩,
   ⟨(some 53), .mv (.t 52), none⟩,
   ⟨(some 54), .mv (.t 0), (some (53, true))⟩,
   ⟨(some 55), .call 16 [.t 54], (some (53, true))⟩,
   ⟨(some 56), .mv (.t 0), (some (53, true))⟩,
   ⟨(some 57), .call 23 [.t 56], (some (53, true))⟩,
   ⟨(some 58), .call 25 [.t 57], (some (53, true))⟩,
   ⟨(some 59), .eqv .bool false (.t 55) (.t 58), (some (53, true))⟩,
   ⟨(some 60), .pick (.t 53) (.t 59) (.c (.bool false)), none⟩,
   ⟨(some 8), .mv (.t 60), none⟩] [8])
 .ret))))))⟩

def h_bandboxlaw18_awake : Hint := [(0, [], []), (1, [0], [])]
def ir_bandboxlaw18_awake : AFunc := ⟨0, 22, [.tmp 0],
 (.seq (.ops [
   ⟨(some 0), .mv (.c (.bool false)), none⟩] [])
 (.seq (.ops [
   ⟨(some 1), .call 44 [], none⟩,
   ⟨(some 2), .bslice 2 1 ([.int .i64 0]) [(0, 1, .c (.int .i64 0)), (1, 1, .c (.int .i64 2))], none⟩,
   ⟨(some 3), .call 17 [.t 1, .t 2], none⟩,
   ⟨(some 4), .bslice 3 1 ([.int .i64 0]) [(0, 1, .c (.int .i64 0)), (1, 1, .c (.int .i64 1)), (2, 1, .c (.int .i64 2))], none⟩,
   ⟨(some 5), .call 19 [.t 3, .t 4], none⟩,
   ⟨(some 6), .mv (.t 5), none⟩,
   ⟨(some 7), .call 44 [], (some (6, true))⟩,
   ⟨(some 8), .bslice 1 1 ([.int .i64 0]) [(0, 1, .c (.int .i64 2))], (some (6, true))⟩,
   ⟨(some 9), .call 17 [.t 7, .t 8], (some (6, true))⟩,
   ⟨(some 10), .bslice 1 1 ([.int .i64 0]) [(0, 1, .c (.int .i64 2))], (some (6, true))⟩,
   ⟨(some 11), .call 19 [.t 9, .t 10], (some (6, true))⟩,
   ⟨(some 12), .pick (.t 6) (.t 11) (.c (.bool false)), none⟩,
   ⟨(some 13), .mv (.t 12), none⟩,
   ⟨(some 14), .call 44 [], (some (13, true))⟩,
   ⟨(some 15), .bslice 2 1 ([.int .i64 0]) [(0, 1, .c (.int .i64 0)), (1, 1, .c (.int .i64 1))], (some (13, true))⟩,
   ⟨(some 16), .call 20 [.t 14, .c (.int .i64 2), .t 15], (some (13, true))⟩,
   ⟨(some 17), .pick (.t 13) (.t 16) (.c (.bool false)), none⟩,
   ⟨(some 18), .mv (.t 17), none⟩,
   ⟨(some 19), .call 44 [], (some (18, true))⟩,
   ⟨(some 20), .call 16 [.t 19], (some (18, true))⟩,
   ⟨(some 21), .pick (.t 18) (.t 20) (.c (.bool false)), none⟩,
   ⟨(some 0), .mv (.t 21), none⟩] [0])
 .ret))⟩

def h_know_Good : Hint := [(0, [0], []), (1, [0, 6, 7, 8], []), (2, [0, 6, 7, 8, 9], []), (3, [0, 3, 4, 6, 7, 8], []), (4, [0, 3, 4, 5, 6, 7, 8], []), (5, [0, 3, 4, 5, 6, 7, 8, 14], []), (6, [0, 5, 6, 7, 8], []), (7, [0, 3, 4, 5, 6, 7, 8, 14, 15], []), (8, [0, 3, 4, 6, 7, 8, 14, 17], []), (9, [0, 3, 4, 6, 7, 8, 14, 17], []), (10, [0, 5, 6, 7, 8], []), (11, [0, 3, 4, 6, 7, 8, 30], []), (12, [0, 5, 6, 7, 8], []), (13, [0, 6, 7, 8, 37], []), (14, [2], []), (15, [0, 6, 7, 8], []), (16, [2], [])]
def ir_know_Good : AFunc := ⟨1, 42, [.tmp 2],
 (.seq (.ops [
   ⟨(some 2), .mv (.c (.bool false)), none⟩] [0])
 (.seq (.seq (.ops [
   ⟨(some 6), .mv (.t 0), none⟩,
   ⟨(some 7), .lenS (.t 6), none⟩,
   ⟨(some 8), .mv (.c (.int .i64 0)), none⟩] [0, 6, 7, 8])
 (.block 0
  (.loop
   (.seq (.ops [
     ⟨(some 9), .bin .lss (.t 8) (.t 7), none⟩] [0, 6, 7, 8, 9])
   (.seq (.cond (.t 9)
    .skip
    (.exit 0))
   (.seq (.block 1
    (.seq (.ops [
      ⟨(some 10), .mv (.t 8), none⟩,
      ⟨(some 11), .iaddrS 4 (.t 6) (.t 8), none⟩,
      ⟨(some 12), .load (some 4) (.t 11), none⟩,
      ⟨(some 4), .alloc ([.int .i64 0, .int .i64 0, .int .i64 0, .int .i64 0]), none⟩,
      ⟨(some 3), .mv (.t 10), none⟩,
      ⟨none, .store 4 (.t 4) (.t 12), none⟩] [0, 3, 4, 6, 7, 8])
    (.seq (.ops [
      ⟨(some 5), .mv (.c (.bool true)), none⟩] [0, 3, 4, 5, 6, 7, 8])
    (.seq (.seq (.ops [
      ⟨(some 13), .faddr 0 (.t 4), none⟩,
      ⟨(some 14), .load none (.t 13), none⟩] [0, 3, 4, 5, 6, 7, 8, 14])
    (.block 2
     (.seq (.ops [
       ⟨(some 16), .bin .eql (.t 14) (.c (.int .i64 1)), none⟩,
       ⟨(some 15), .mv (.t 16), none⟩] [0, 3, 4, 5, 6, 7, 8, 14, 15])
     (.cond (.t 15)
      .skip
      (.seq (.seq (.ops [
        ⟨(some 18), .bin .eql (.t 14) (.c (.int .i64 2)), none⟩,
        ⟨(some 17), .mv (.t 18), none⟩] [0, 3, 4, 6, 7, 8, 14, 17])
      (.cond (.t 17)
       .skip
       (.ops [
         ⟨(some 19), .bin .eql (.t 14) (.c (.int .i64 3)), none⟩,
         ⟨(some 17), .mv (.t 19), none⟩] [0, 3, 4, 6, 7, 8, 14, 17])))
      (.cond (.t 17)
       (.ops [
         ⟨(some 20), .faddr 1 (.t 4), none⟩,
         ⟨(some 21), .load none (.t 20), none⟩,
         ⟨(some 22), .mv (.t 3), none⟩,
         ⟨(some 23), .call 45 [.t 21, .t 22], none⟩,
         ⟨(some 24), .mv (.t 23), none⟩,
         ⟨(some 25), .faddr 2 (.t 4), (some (24, true))⟩,
         ⟨(some 26), .load none (.t 25), (some (24, true))⟩,
         ⟨(some 27), .mv (.t 3), (some (24, true))⟩,
         ⟨(some 28), .call 45 [.t 26, .t 27], (some (24, true))⟩,
         ⟨(some 29), .pick (.t 24) (.t 28) (.c (.bool false)), none⟩,
         ⟨(some 5), .mv (.t 29), none⟩] [0, 5, 6, 7, 8])
       (.seq (.ops [
         ⟨(some 31), .bin .eql (.t 14) (.c (.int .i64 4)), none⟩,
         ⟨(some 30), .mv (.t 31), none⟩] [0, 3, 4, 6, 7, 8, 30])
       (.cond (.t 30)
        (.ops [
          ⟨(some 32), .faddr 1 (.t 4), none⟩,
          ⟨(some 33), .load none (.t 32), none⟩,
          ⟨(some 34), .mv (.t 3), none⟩,
          ⟨(some 35), .call 45 [.t 33, .t 34], none⟩,
          ⟨(some 5), .mv (.t 35), none⟩] [0, 5, 6, 7, 8])
        (.ops [
          ⟨(some 5), .mv (.c (.bool false)), none⟩] [0, 5, 6, 7, 8])))))))))
    (.seq (.ops [
      ⟨(some 36), .mv (.t 5), none⟩,
      ⟨(some 37), .un .not (.t 36), none⟩] [0, 6, 7, 8, 37])
    (.cond (.t 37)
     (.seq (.ops [
       ⟨(some 2), .mv (.c (.bool false)), none⟩] [2])
     .ret)
     .skip))))))
   (.ops [
     ⟨(some 38), .bin .add (.t 8) (.c (.int .i64 1)), none⟩,
     ⟨(some 8), .mv (.t 38), none⟩] [0, 6, 7, 8])))))))
 (.seq (.ops [
   ⟨(some 39), .mv (.t 0), none⟩,
   ⟨(some 40), .lenS (.t 39), none⟩,
   ⟨(some 41), .bin .leq (.t 40) (.c (.int .i64 500)), none⟩,
   ⟨(some 2), .mv (.t 41), none⟩] [2])
 .ret)))⟩

def h_know_All : Hint := [(0, [0, 1], []), (1, [0, 1, 13], []), (2, [4], []), (3, [0, 1, 5], [(1, 0), (2, 0), (0, 1), (3, 1), (4, 1), (5, 0), (6, 0), (7, 0), (8, 0)]), (4, [0, 5, 22, 23, 24], []), (5, [0, 5, 22, 23, 24, 25], []), (6, [0, 5, 7, 22, 23, 24], []), (7, [0, 5, 7, 22, 23, 24, 31], []), (8, [0, 5, 22, 23, 24], []), (9, [0, 5, 22, 23, 24], []), (10, [0, 5, 37, 38], []), (11, [0, 5, 37, 38, 39], []), (12, [0, 5, 8, 37, 38], []), (13, [0, 5, 37, 38, 43], []), (14, [0, 5, 37, 38], []), (15, [0, 5, 9], []), (16, [5, 9, 46, 47], []), (17, [5, 9, 46, 47, 48], []), (18, [5, 9, 10, 46, 47], []), (19, [5, 9, 10, 46, 47, 52], []), (20, [5, 9, 46, 47], []), (21, [5, 9, 46, 47], []), (22, [4], [])]
def ir_know_All : AFunc := ⟨2, 59, [.tmp 4],
 (.seq (.ops [
   ⟨(some 4), .mv (.c (.slice none 0 0)), none⟩] [0, 1])
 (.scope
  (.seq (.seq (.ops [
    ⟨(some 11), .mv (.t 0), none⟩,
    ⟨(some 12), .call 16 [.t 11], none⟩,
    ⟨(some 13), .un .not (.t 12), none⟩] [0, 1, 13])
  (.cond (.t 13)
   (.seq (.ops [
     ⟨(some 4), .mv (.c (.slice none 0 0)), none⟩] [4])
   .ret)
   .skip))
  (.seq (.dops [
    ⟨1, (some 15), .mv (.t 0), none, 0⟩,
    ⟨2, (some 16), .call 46 [.t 15], none, 0⟩,
    ⟨0, (some 14), .mv (.t 0), none, 1⟩,
    ⟨3, (some 17), .mv (.t 0), none, 1⟩,
    ⟨4, (some 18), .lenS (.t 17), none, 1⟩,
    ⟨5, (some 19), .mslice 1 ([.bool false]) (.t 18) (.t 18), none, 0⟩,
    ⟨6, (some 20), .build ([.slice none 0 0, .slice none 0 0, .slice none 0 0]) [(0, 1, .t 14), (1, 1, .t 16), (2, 1, .t 19)], none, 0⟩,
    ⟨7, (some 21), .box (.t 20), none, 0⟩,
    ⟨8, (some 5), .mv (.t 21), none, 0⟩] [0, 1, 5])
  (.seq (.seq (.ops [
    ⟨(some 22), .mv (.t 1), none⟩,
    ⟨(some 23), .lenS (.t 22), none⟩,
    ⟨(some 24), .mv (.c (.int .i64 0)), none⟩] [0, 5, 22, 23, 24])
  (.block 0
   (.loop
    (.seq (.ops [
      ⟨(some 25), .bin .lss (.t 24) (.t 23), none⟩] [0, 5, 22, 23, 24, 25])
    (.seq (.cond (.t 25)
     .skip
     (.exit 0))
    (.seq (.block 1
     (.seq (.ops [
       ⟨(some 26), .iaddrS 1 (.t 22) (.t 24), none⟩,
       ⟨(some 27), .load none (.t 26), none⟩,
       ⟨(some 7), .mv (.t 27), none⟩] [0, 5, 7, 22, 23, 24])
     (.seq (.ops [
       ⟨(some 28), .mv (.t 7), none⟩,
       ⟨(some 29), .mv (.t 0), none⟩,
       ⟨(some 30), .lenS (.t 29), none⟩,
       ⟨(some 31), .call 45 [.t 28, .t 30], none⟩] [0, 5, 7, 22, 23, 24, 31])
     (.cond (.t 31)
      (.ops [
        ⟨(some 32), .mv (.t 5), none⟩,
        ⟨(some 33), .mv (.t 7), none⟩,
        ⟨(some 34), .call 47 [.t 32, .t 33], none⟩] [0, 5, 22, 23, 24])
      .skip))))
    (.ops [
      ⟨(some 35), .bin .add (.t 24) (.c (.int .i64 1)), none⟩,
      ⟨(some 24), .mv (.t 35), none⟩] [0, 5, 22, 23, 24])))))))
  (.seq .skip
  (.seq (.block 2
   (.loop
    (.block 3
     (.seq (.seq (.ops [
       ⟨(some 36), .mv (.t 0), none⟩,
       ⟨(some 37), .lenS (.t 36), none⟩,
       ⟨(some 38), .mv (.c (.int .i64 0)), none⟩] [0, 5, 37, 38])
     (.block 4
      (.loop
       (.seq (.ops [
         ⟨(some 39), .bin .lss (.t 38) (.t 37), none⟩] [0, 5, 37, 38, 39])
       (.seq (.cond (.t 39)
        .skip
        (.exit 4))
       (.seq (.block 5
        (.seq (.ops [
          ⟨(some 40), .mv (.t 38), none⟩,
          ⟨(some 8), .mv (.t 40), none⟩] [0, 5, 8, 37, 38])
        (.seq (.ops [
          ⟨(some 41), .mv (.t 5), none⟩,
          ⟨(some 42), .mv (.t 8), none⟩,
          ⟨(some 43), .call 48 [.t 41, .t 42], none⟩] [0, 5, 37, 38, 43])
        (.cond (.t 43)
         (.exit 3)
         .skip))))
       (.ops [
         ⟨(some 44), .bin .add (.t 38) (.c (.int .i64 1)), none⟩,
         ⟨(some 38), .mv (.t 44), none⟩] [0, 5, 37, 38])))))))
     (.exit 2)))))
  (.seq (.ops [
    ⟨(some 9), .mv (.c (.slice none 0 0)), none⟩] [0, 5, 9])
  (.seq (.seq (.ops [
    ⟨(some 45), .mv (.t 0), none⟩,
    ⟨(some 46), .lenS (.t 45), none⟩,
    ⟨(some 47), .mv (.c (.int .i64 0)), none⟩] [5, 9, 46, 47])
  (.block 6
   (.loop
    (.seq (.ops [
      ⟨(some 48), .bin .lss (.t 47) (.t 46), none⟩] [5, 9, 46, 47, 48])
    (.seq (.cond (.t 48)
     .skip
     (.exit 6))
    (.seq (.block 7
     (.seq (.ops [
       ⟨(some 49), .mv (.t 47), none⟩,
       ⟨(some 10), .mv (.t 49), none⟩] [5, 9, 10, 46, 47])
     (.seq (.ops [
       ⟨(some 50), .mv (.t 5), none⟩,
       ⟨(some 51), .mv (.t 10), none⟩,
       ⟨(some 52), .call 49 [.t 50, .t 51], none⟩] [5, 9, 10, 46, 47, 52])
     (.cond (.t 52)
      (.ops [
        ⟨(some 53), .mv (.t 9), none⟩,
        ⟨(some 54), .mv (.t 10), none⟩,
        ⟨(some 55), .bslice 1 1 ([.int .i64 0]) [(0, 1, .t 54)], none⟩,
        ⟨(some 56), .append 1 8 (.t 53) (.t 55), none⟩,
        ⟨(some 9), .mv (.t 56), none⟩] [5, 9, 46, 47])
      .skip))))
    (.ops [
      ⟨(some 57), .bin .add (.t 47) (.c (.int .i64 1)), none⟩,
      ⟨(some 47), .mv (.t 57), none⟩] [5, 9, 46, 47])))))))
  (.seq (.ops [
    ⟨(some 58), .mv (.t 9), none⟩,
    ⟨(some 4), .mv (.t 58), none⟩] [4])
  .ret))))))))))⟩

def h_bandboxlaw18_has : Hint := [(0, [0, 1], []), (1, [0, 1, 5], []), (2, [0, 1, 5, 9], []), (3, [0, 1, 5], []), (4, [0, 1, 5, 17], []), (5, [4], []), (6, [4], [])]
def ir_bandboxlaw18_has : AFunc := ⟨2, 18, [.tmp 4],
 (.seq (.ops [
   ⟨(some 4), .mv (.c (.bool false)), none⟩] [0, 1])
 (.seq (.seq (.ops [
   ⟨(some 5), .mv (.c (.int .i64 0)), none⟩] [0, 1, 5])
 (.block 0
  (.loop
   (.seq (.seq (.ops [
     ⟨(some 6), .mv (.t 5), none⟩,
     ⟨(some 7), .mv (.t 0), none⟩,
     ⟨(some 8), .lenS (.t 7), none⟩,
     ⟨(some 9), .bin .lss (.t 6) (.t 8), none⟩] [0, 1, 5, 9])
   (.cond (.t 9)
    .skip
    (.exit 0)))
   (.seq (.block 1
    (.seq (.ops [
      ⟨(some 12), .mv (.t 0), none⟩,
      ⟨(some 13), .mv (.t 5), none⟩,
      ⟨(some 14), .iaddrS 1 (.t 12) (.t 13), none⟩,
      ⟨(some 15), .load none (.t 14), none⟩,
      ⟨(some 16), .mv (.t 1), none⟩,
      ⟨(some 17), .bin .eql (.t 15) (.t 16), none⟩] [0, 1, 5, 17])
    (.cond (.t 17)
     (.seq (.ops [
       ⟨(some 4), .mv (.c (.bool true)), none⟩] [4])
     .ret)
     .skip)))
   (.ops [
     ⟨(some 10), .mv (.t 5), none⟩,
     ⟨(some 11), .bin .add (.t 10) (.c (.int .i64 1)), none⟩,
     ⟨(some 5), .mv (.t 11), none⟩] [0, 1, 5]))))))
 (.seq (.ops [
   ⟨(some 4), .mv (.c (.bool false)), none⟩] [4])
 .ret)))⟩

def h_bandboxlaw18_same : Hint := [(0, [0, 1], []), (1, [0, 1, 10], []), (2, [4], []), (3, [0, 1, 5], []), (4, [0, 1, 5, 14], []), (5, [0, 1, 5], []), (6, [0, 1, 5, 25], [(0, 0), (1, 0), (2, 0), (3, 0), (4, 0), (5, 0), (6, 0), (7, 0), (8, 0)]), (7, [4], []), (8, [4], [])]
def ir_bandboxlaw18_same : AFunc := ⟨2, 26, [.tmp 4],
 (.seq (.ops [
   ⟨(some 4), .mv (.c (.bool false)), none⟩] [0, 1])
 (.seq (.seq (.ops [
   ⟨(some 6), .mv (.t 0), none⟩,
   ⟨(some 7), .lenS (.t 6), none⟩,
   ⟨(some 8), .mv (.t 1), none⟩,
   ⟨(some 9), .lenS (.t 8), none⟩,
   ⟨(some 10), .bin .neq (.t 7) (.t 9), none⟩] [0, 1, 10])
 (.cond (.t 10)
  (.seq (.ops [
    ⟨(some 4), .mv (.c (.bool false)), none⟩] [4])
  .ret)
  .skip))
 (.seq (.seq (.ops [
   ⟨(some 5), .mv (.c (.int .i64 0)), none⟩] [0, 1, 5])
 (.block 0
  (.loop
   (.seq (.seq (.ops [
     ⟨(some 11), .mv (.t 5), none⟩,
     ⟨(some 12), .mv (.t 0), none⟩,
     ⟨(some 13), .lenS (.t 12), none⟩,
     ⟨(some 14), .bin .lss (.t 11) (.t 13), none⟩] [0, 1, 5, 14])
   (.cond (.t 14)
    .skip
    (.exit 0)))
   (.seq (.block 1
    (.seq (.dops [
      ⟨0, (some 17), .mv (.t 0), none, 0⟩,
      ⟨1, (some 18), .mv (.t 5), none, 0⟩,
      ⟨2, (some 19), .iaddrS 1 (.t 17) (.t 18), none, 0⟩,
      ⟨3, (some 20), .load none (.t 19), none, 0⟩,
      ⟨4, (some 21), .mv (.t 1), none, 0⟩,
      ⟨5, (some 22), .mv (.t 5), none, 0⟩,
      ⟨6, (some 23), .iaddrS 1 (.t 21) (.t 22), none, 0⟩,
      ⟨7, (some 24), .load none (.t 23), none, 0⟩,
      ⟨8, (some 25), .bin .neq (.t 20) (.t 24), none, 0⟩] [0, 1, 5, 25])
    (.cond (.t 25)
     (.seq (.ops [
       ⟨(some 4), .mv (.c (.bool false)), none⟩] [4])
     .ret)
     .skip)))
   (.ops [
     ⟨(some 15), .mv (.t 5), none⟩,
     ⟨(some 16), .bin .add (.t 15) (.c (.int .i64 1)), none⟩,
     ⟨(some 5), .mv (.t 16), none⟩] [0, 1, 5]))))))
 (.seq (.ops [
   ⟨(some 4), .mv (.c (.bool true)), none⟩] [4])
 .ret))))⟩

def h_know_Can : Hint := [(0, [0, 1, 2], []), (1, [1, 11, 12, 13], []), (2, [1, 11, 12, 13, 14], []), (3, [1, 8, 11, 12, 13], []), (4, [1, 11, 12, 13, 19], []), (5, [6], []), (6, [1, 11, 12, 13], []), (7, [6], [])]
def ir_know_Can : AFunc := ⟨3, 21, [.tmp 6],
 (.seq (.ops [
   ⟨(some 6), .mv (.c (.bool false)), none⟩] [0, 1, 2])
 (.seq (.seq (.ops [
   ⟨(some 9), .mv (.t 0), none⟩,
   ⟨(some 10), .mv (.t 2), none⟩,
   ⟨(some 11), .call 17 [.t 9, .t 10], none⟩,
   ⟨(some 12), .lenS (.t 11), none⟩,
   ⟨(some 13), .mv (.c (.int .i64 0)), none⟩] [1, 11, 12, 13])
 (.block 0
  (.loop
   (.seq (.ops [
     ⟨(some 14), .bin .lss (.t 13) (.t 12), none⟩] [1, 11, 12, 13, 14])
   (.seq (.cond (.t 14)
    .skip
    (.exit 0))
   (.seq (.block 1
    (.seq (.ops [
      ⟨(some 15), .iaddrS 1 (.t 11) (.t 13), none⟩,
      ⟨(some 16), .load none (.t 15), none⟩,
      ⟨(some 8), .mv (.t 16), none⟩] [1, 8, 11, 12, 13])
    (.seq (.ops [
      ⟨(some 17), .mv (.t 8), none⟩,
      ⟨(some 18), .mv (.t 1), none⟩,
      ⟨(some 19), .bin .eql (.t 17) (.t 18), none⟩] [1, 11, 12, 13, 19])
    (.cond (.t 19)
     (.seq (.ops [
       ⟨(some 6), .mv (.c (.bool true)), none⟩] [6])
     .ret)
     .skip))))
   (.ops [
     ⟨(some 20), .bin .add (.t 13) (.c (.int .i64 1)), none⟩,
     ⟨(some 13), .mv (.t 20), none⟩] [1, 11, 12, 13])))))))
 (.seq (.ops [
   ⟨(some 6), .mv (.c (.bool false)), none⟩] [6])
 .ret)))⟩

def h_know_Same : Hint := [(0, [0, 1, 2], []), (1, [0, 1, 2, 24], []), (2, [6], []), (3, [1, 2, 7], []), (4, [6], [(0, 0), (1, 0), (2, 0), (3, 0), (4, 0), (5, 0), (6, 0), (7, 0), (8, 0), (9, 0)])]
def ir_know_Same : AFunc := ⟨3, 36, [.tmp 6],
 (.seq (.ops [
   ⟨(some 6), .mv (.c (.bool false)), none⟩] [0, 1, 2])
 (.seq (.seq (.ops [
   ⟨(some 8), .mv (.t 0), none⟩,
   ⟨(some 9), .call 16 [.t 8], none⟩,
   ⟨(some 10), .un .not (.t 9), none⟩,
   ⟨(some 11), .mv (.t 10), none⟩,
   ⟨(some 12), .mv (.t 1), (some (11, false))⟩,
   ⟨(some 13), .mv (.t 0), (some (11, false))⟩,
   ⟨(some 14), .lenS (.t 13), (some (11, false))⟩,
   ⟨(some 15), .call 45 [.t 12, .t 14], (some (11, false))⟩,
   ⟨(some 16), .un .not (.t 15), (some (11, false))⟩,
   ⟨(some 17), .pick (.t 11) (.c (.bool true)) (.t 16), none⟩,
   ⟨(some 18), .mv (.t 17), none⟩,
   ⟨(some 19), .mv (.t 2), (some (18, false))⟩,
   ⟨(some 20), .mv (.t 0), (some (18, false))⟩,
   ⟨(some 21), .lenS (.t 20), (some (18, false))⟩,
   ⟨(some 22), .call 45 [.t 19, .t 21], (some (18, false))⟩,
   ⟨(some 23), .un .not (.t 22), (some (18, false))⟩,
   ⟨(some 24), .pick (.t 18) (.c (.bool true)) (.t 23), none⟩] [0, 1, 2, 24])
 (.cond (.t 24)
  (.seq (.ops [
    ⟨(some 6), .mv (.c (.bool false)), none⟩] [6])
  .ret)
  .skip))
 (.seq (.ops [
   ⟨(some 25), .mv (.t 0), none⟩,
   ⟨(some 26), .call 46 [.t 25], none⟩,
   ⟨(some 7), .mv (.t 26), none⟩] [1, 2, 7])
 (.seq (.dops [
   ⟨0, (some 27), .mv (.t 7), none, 0⟩,
   ⟨1, (some 28), .mv (.t 1), none, 0⟩,
   ⟨2, (some 29), .iaddrS 1 (.t 27) (.t 28), none, 0⟩,
   ⟨3, (some 30), .load none (.t 29), none, 0⟩,
   ⟨4, (some 31), .mv (.t 7), none, 0⟩,
   ⟨5, (some 32), .mv (.t 2), none, 0⟩,
   ⟨6, (some 33), .iaddrS 1 (.t 31) (.t 32), none, 0⟩,
   ⟨7, (some 34), .load none (.t 33), none, 0⟩,
   ⟨8, (some 35), .bin .eql (.t 30) (.t 34), none, 0⟩,
   ⟨9, (some 6), .mv (.t 35), none, 0⟩] [6])
 .ret))))⟩

def h_bandboxref15_Know : Hint := [(0, [0, 1], []), (1, [0, 1, 15], []), (2, [4], []), (3, [0, 1, 5], []), (4, [0, 1, 5, 6], []), (5, [0, 1, 5, 6, 7], []), (6, [0, 1, 5, 6, 7, 24], []), (7, [0, 1, 5, 6, 7], []), (8, [0, 1, 5, 6, 7, 40], []), (9, [0, 1, 5, 6, 7], []), (10, [0, 5, 6, 8], []), (11, [0, 5, 6, 50], []), (12, [0, 5, 6, 8], []), (13, [0, 5, 6, 8, 9], []), (14, [0, 5, 6, 8, 9, 54], []), (15, [0, 5, 6, 8, 9], []), (16, [0, 5, 6, 8, 9, 10], []), (17, [0, 5, 6, 8, 9, 10, 67], []), (18, [0, 5, 6, 8, 9, 10, 91], []), (19, [0, 5, 6, 8, 9, 10], [(0, 0), (1, 0), (2, 0), (3, 0), (4, 0), (5, 0), (7, 0), (8, 0), (9, 0), (10, 0), (11, 0), (12, 0), (13, 0), (6, 1), (14, 0), (15, 0), (16, 0)]), (20, [0, 5, 6, 8, 9, 10, 129], []), (21, [0, 5, 6, 8, 9], []), (22, [0, 5, 6, 8, 9, 179], []), (23, [0, 5, 6, 8, 9], []), (24, [0, 5, 6, 11], []), (25, [0, 5, 6, 11, 12], []), (26, [0, 5, 6, 11, 12, 189], []), (27, [0, 5, 6, 11, 12], []), (28, [0, 5, 6, 11, 12, 198], []), (29, [0, 5, 6, 11, 12], []), (30, [4], [])]
def ir_bandboxref15_Know_61 : ACode := (.seq (.ops [
         ⟨(some 61), .mv (.t 6), none⟩,
         ⟨(some 62), .mv (.t 5), none⟩,
         ⟨(some 63), .mv (.t 9), none⟩,
         ⟨(some 64), .iaddrS 1 (.t 62) (.t 63), none⟩,
         ⟨(some 65), .load none (.t 64), none⟩,
         ⟨(some 66), .iaddrS 1 (.t 61) (.t 65), none⟩,
         ⟨(some 67), .load none (.t 66), none⟩] [0, 5, 6, 8, 9, 10, 67])
 (.cond (.t 67)
 (.seq (.seq (.ops [
          ⟨(some 68), .faddr 0 (.t 10), none⟩,
          ⟨(some 69), .load none (.t 68), none⟩,
          ⟨(some 70), .bin .eql (.t 69) (.c (.int .i64 2)), none⟩,
          ⟨(some 71), .mv (.t 70), none⟩,
          ⟨(some 72), .mv (.t 6), (some (71, true))⟩,
          ⟨(some 73), .mv (.t 5), (some (71, true))⟩,
          ⟨(some 74), .faddr 1 (.t 10), (some (71, true))⟩,
          ⟨(some 75), .load none (.t 74), (some (71, true))⟩,
          ⟨(some 76), .iaddrS 1 (.t 73) (.t 75), (some (71, true))⟩,
          ⟨(some 77), .load none (.t 76), (some (71, true))⟩,
          ⟨(some 78), .iaddrS 1 (.t 72) (.t 77), (some (71, true))⟩,
          ⟨(some 79), .load none (.t 78), (some (71, true))⟩,
          ⟨(some 80), .mv (.t 79), (some (71, true))⟩,
          ⟨(some 81), .mv (.t 6), (some (80, true))⟩,
          ⟨(some 82), .mv (.t 5), (some (80, true))⟩,
          ⟨(some 83), .faddr 2 (.t 10), (some (80, true))⟩,
          ⟨(some 84), .load none (.t 83), (some (80, true))⟩,
          ⟨(some 85), .iaddrS 1 (.t 82) (.t 84), (some (80, true))⟩,
          ⟨(some 86), .load none (.t 85), (some (80, true))⟩,
          ⟨(some 87), .iaddrS 1 (.t 81) (.t 86), (some (80, true))⟩,
          ⟨(some 88), .load none (.t 87), (some (80, true))⟩,
          ⟨(some 89), .pick (.t 80) (.t 88) (.c (.bool false)), (some (71, true))⟩,
          ⟨(some 90), .un .not (.t 89), (some (71, true))⟩,
          ⟨(some 91), .pick (.t 71) (.t 90) (.c (.bool false)), none⟩] [0, 5, 6, 8, 9, 10, 91])
 (.cond (.t 91)
 (.dops [
           ⟨0, (some 92), .mv (.t 6), none, 0⟩,
           ⟨1, (some 93), .mv (.t 5), none, 0⟩,
           ⟨2, (some 94), .faddr 1 (.t 10), none, 0⟩,
           ⟨3, (some 95), .load none (.t 94), none, 0⟩,
           ⟨4, (some 96), .iaddrS 1 (.t 93) (.t 95), none, 0⟩,
           ⟨5, (some 97), .load none (.t 96), none, 0⟩,
           ⟨7, (some 99), .mv (.t 5), none, 0⟩,
           ⟨8, (some 100), .faddr 2 (.t 10), none, 0⟩,
           ⟨9, (some 101), .load none (.t 100), none, 0⟩,
           ⟨10, (some 102), .iaddrS 1 (.t 99) (.t 101), none, 0⟩,
           ⟨11, (some 103), .load none (.t 102), none, 0⟩,
           ⟨12, (some 104), .iaddrS 1 (.t 92) (.t 97), none, 0⟩,
           ⟨13, none, .store 1 (.t 104) (.c (.bool true)), none, 0⟩,
           ⟨6, (some 98), .mv (.t 6), none, 1⟩,
           ⟨14, (some 105), .iaddrS 1 (.t 98) (.t 103), none, 0⟩,
           ⟨15, none, .store 1 (.t 105) (.c (.bool true)), none, 0⟩,
           ⟨16, (some 8), .mv (.c (.bool true)), none, 0⟩] [0, 5, 6, 8, 9, 10])
 .skip))
 (.seq (.ops [
          ⟨(some 106), .faddr 0 (.t 10), none⟩,
          ⟨(some 107), .load none (.t 106), none⟩,
          ⟨(some 108), .bin .eql (.t 107) (.c (.int .i64 3)), none⟩,
          ⟨(some 109), .mv (.t 108), none⟩,
          ⟨(some 110), .mv (.t 6), (some (109, true))⟩,
          ⟨(some 111), .mv (.t 5), (some (109, true))⟩,
          ⟨(some 112), .faddr 1 (.t 10), (some (109, true))⟩,
          ⟨(some 113), .load none (.t 112), (some (109, true))⟩,
          ⟨(some 114), .iaddrS 1 (.t 111) (.t 113), (some (109, true))⟩,
          ⟨(some 115), .load none (.t 114), (some (109, true))⟩,
          ⟨(some 116), .iaddrS 1 (.t 110) (.t 115), (some (109, true))⟩,
          ⟨(some 117), .load none (.t 116), (some (109, true))⟩,
          ⟨(some 118), .pick (.t 109) (.t 117) (.c (.bool false)), none⟩,
          ⟨(some 119), .mv (.t 118), none⟩,
          ⟨(some 120), .mv (.t 6), (some (119, true))⟩,
          ⟨(some 121), .mv (.t 5), (some (119, true))⟩,
          ⟨(some 122), .faddr 2 (.t 10), (some (119, true))⟩,
          ⟨(some 123), .load none (.t 122), (some (119, true))⟩,
          ⟨(some 124), .iaddrS 1 (.t 121) (.t 123), (some (119, true))⟩,
          ⟨(some 125), .load none (.t 124), (some (119, true))⟩,
          ⟨(some 126), .iaddrS 1 (.t 120) (.t 125), (some (119, true))⟩,
          ⟨(some 127), .load none (.t 126), (some (119, true))⟩,
          ⟨(some 128), .un .not (.t 127), (some (119, true))⟩,
          ⟨(some 129), .pick (.t 119) (.t 128) (.c (.bool false)), none⟩] [0, 5, 6, 8, 9, 10, 129])
 (.cond (.t 129)
 (.ops [
           ⟨(some 130), .mv (.t 6), none⟩,
           ⟨(some 131), .mv (.t 5), none⟩,
           ⟨(some 132), .faddr 2 (.t 10), none⟩,
           ⟨(some 133), .load none (.t 132), none⟩,
           ⟨(some 134), .iaddrS 1 (.t 131) (.t 133), none⟩,
           ⟨(some 135), .load none (.t 134), none⟩,
           ⟨(some 136), .iaddrS 1 (.t 130) (.t 135), none⟩,
           ⟨none, .store 1 (.t 136) (.c (.bool true)), none⟩,
           ⟨(some 8), .mv (.c (.bool true)), none⟩] [0, 5, 6, 8, 9])
 .skip)))
 (.seq (.ops [
          ⟨(some 137), .faddr 0 (.t 10), none⟩,
          ⟨(some 138), .load none (.t 137), none⟩,
          ⟨(some 139), .bin .eql (.t 138) (.c (.int .i64 4)), none⟩,
          ⟨(some 140), .mv (.t 139), none⟩,
          ⟨(some 141), .mv (.t 6), (some (140, true))⟩,
          ⟨(some 142), .mv (.t 5), (some (140, true))⟩,
          ⟨(some 143), .faddr 1 (.t 10), (some (140, true))⟩,
          ⟨(some 144), .load none (.t 143), (some (140, true))⟩,
          ⟨(some 145), .iaddrS 1 (.t 142) (.t 144), (some (140, true))⟩,
          ⟨(some 146), .load none (.t 145), (some (140, true))⟩,
          ⟨(some 147), .iaddrS 1 (.t 141) (.t 146), (some (140, true))⟩,
          ⟨(some 148), .load none (.t 147), (some (140, true))⟩,
          ⟨(some 149), .pick (.t 140) (.t 148) (.c (.bool false)), none⟩,
          ⟨(some 150), .mv (.t 149), none⟩,
          ⟨(some 151), .faddr 0 (.t 10), (some (150, false))⟩,
          ⟨(some 152), .load none (.t 151), (some (150, false))⟩,
          ⟨(some 153), .bin .eql (.t 152) (.c (.int .i64 2)), (some (150, false))⟩,
          ⟨(some 154), .mv (.t 153), (some (150, false))⟩,
          ⟨(some 155), .faddr 0 (.t 10), (some (154, false))⟩,
          ⟨(some 156), .load none (.t 155), (some (154, false))⟩,
          ⟨(some 157), .bin .eql (.t 156) (.c (.int .i64 3)), (some (154, false))⟩,
          ⟨(some 158), .pick (.t 154) (.c (.bool true)) (.t 157), (some (150, false))⟩,
          ⟨(some 159), .mv (.t 158), (some (150, false))⟩,
          ⟨(some 160), .mv (.t 6), (some (159, true))⟩,
          ⟨(some 161), .mv (.t 5), (some (159, true))⟩,
          ⟨(some 162), .faddr 1 (.t 10), (some (159, true))⟩,
          ⟨(some 163), .load none (.t 162), (some (159, true))⟩,
          ⟨(some 164), .iaddrS 1 (.t 161) (.t 163), (some (159, true))⟩,
          ⟨(some 165), .load none (.t 164), (some (159, true))⟩,
          ⟨(some 166), .iaddrS 1 (.t 160) (.t 165), (some (159, true))⟩,
          ⟨(some 167), .load none (.t 166), (some (159, true))⟩,
          ⟨(some 168), .pick (.t 159) (.t 167) (.c (.bool false)), (some (150, false))⟩,
          ⟨(some 169), .mv (.t 168), (some (150, false))⟩,
          ⟨(some 170), .mv (.t 6), (some (169, true))⟩,
          ⟨(some 171), .mv (.t 5), (some (169, true))⟩,
          ⟨(some 172), .faddr 2 (.t 10), (some (169, true))⟩,
          ⟨(some 173), .load none (.t 172), (some (169, true))⟩,
          ⟨(some 174), .iaddrS 1 (.t 171) (.t 173), (some (169, true))⟩,
          ⟨(some 175), .load none (.t 174), (some (169, true))⟩,
          ⟨(some 176), .iaddrS 1 (.t 170) (.t 175), (some (169, true))⟩,
          ⟨(some 177), .load none (.t 176), (some (169, true))⟩,
          ⟨(some 178), .pick (.t 169) (.t 177) (.c (.bool false)), (some (150, false))⟩,
          ⟨(some 179), .pick (.t 150) (.c (.bool true)) (.t 178), none⟩] [0, 5, 6, 8, 9, 179])
 (.cond (.t 179)
 (.ops [
           ⟨(some 180), .mv (.t 6), none⟩,
           ⟨(some 181), .mv (.t 5), none⟩,
           ⟨(some 182), .mv (.t 9), none⟩,
           ⟨(some 183), .iaddrS 1 (.t 181) (.t 182), none⟩,
           ⟨(some 184), .load none (.t 183), none⟩,
           ⟨(some 185), .iaddrS 1 (.t 180) (.t 184), none⟩,
           ⟨none, .store 1 (.t 185) (.c (.bool true)), none⟩,
           ⟨(some 8), .mv (.c (.bool true)), none⟩] [0, 5, 6, 8, 9])
 .skip))))
def ir_bandboxref15_Know : AFunc := ⟨2, 204, [.tmp 4],
 (.seq (.ops [
   ⟨(some 4), .mv (.c (.slice none 0 0)), none⟩] [0, 1])
 (.seq (.seq (.ops [
   ⟨(some 13), .mv (.t 0), none⟩,
   ⟨(some 14), .call 25 [.t 13], none⟩,
   ⟨(some 15), .un .not (.t 14), none⟩] [0, 1, 15])
 (.cond (.t 15)
 (.seq (.ops [
    ⟨(some 4), .mv (.c (.slice none 0 0)), none⟩] [4])
 .ret)
 .skip))
 (.seq (.ops [
   ⟨(some 16), .mv (.t 0), none⟩,
   ⟨(some 17), .call 50 [.t 16], none⟩,
   ⟨(some 5), .mv (.t 17), none⟩] [0, 1, 5])
 (.seq (.ops [
   ⟨(some 18), .mv (.t 0), none⟩,
   ⟨(some 19), .lenS (.t 18), none⟩,
   ⟨(some 20), .mslice 1 ([.bool false]) (.t 19) (.t 19), none⟩,
   ⟨(some 6), .mv (.t 20), none⟩] [0, 1, 5, 6])
 (.seq (.seq (.ops [
   ⟨(some 7), .mv (.c (.int .i64 0)), none⟩] [0, 1, 5, 6, 7])
 (.block 0 (.loop (.seq (.seq (.ops [
     ⟨(some 21), .mv (.t 7), none⟩,
     ⟨(some 22), .mv (.t 1), none⟩,
     ⟨(some 23), .lenS (.t 22), none⟩,
     ⟨(some 24), .bin .lss (.t 21) (.t 23), none⟩] [0, 1, 5, 6, 7, 24])
 (.cond (.t 24)
 .skip
 (.exit 0)))
 (.seq (.block 1 (.seq (.ops [
      ⟨(some 27), .mv (.t 1), none⟩,
      ⟨(some 28), .mv (.t 7), none⟩,
      ⟨(some 29), .iaddrS 1 (.t 27) (.t 28), none⟩,
      ⟨(some 30), .load none (.t 29), none⟩,
      ⟨(some 31), .bin .geq (.t 30) (.c (.int .i64 0)), none⟩,
      ⟨(some 32), .mv (.t 31), none⟩,
      ⟨(some 33), .mv (.t 1), (some (32, true))⟩,
      ⟨(some 34), .mv (.t 7), (some (32, true))⟩,
      ⟨(some 35), .iaddrS 1 (.t 33) (.t 34), (some (32, true))⟩,
      ⟨(some 36), .load none (.t 35), (some (32, true))⟩,
      ⟨(some 37), .mv (.t 0), (some (32, true))⟩,
      ⟨(some 38), .lenS (.t 37), (some (32, true))⟩,
      ⟨(some 39), .bin .lss (.t 36) (.t 38), (some (32, true))⟩,
      ⟨(some 40), .pick (.t 32) (.t 39) (.c (.bool false)), none⟩] [0, 1, 5, 6, 7, 40])
 (.cond (.t 40)
 (.ops [
       ⟨(some 41), .mv (.t 6), none⟩,
       ⟨(some 42), .mv (.t 5), none⟩,
       ⟨(some 43), .mv (.t 1), none⟩,
       ⟨(some 44), .mv (.t 7), none⟩,
       ⟨(some 45), .iaddrS 1 (.t 43) (.t 44), none⟩,
       ⟨(some 46), .load none (.t 45), none⟩,
       ⟨(some 47), .iaddrS 1 (.t 42) (.t 46), none⟩,
       ⟨(some 48), .load none (.t 47), none⟩,
       ⟨(some 49), .iaddrS 1 (.t 41) (.t 48), none⟩,
       ⟨none, .store 1 (.t 49) (.c (.bool true)), none⟩] [0, 1, 5, 6, 7])
 .skip)))
 (.ops [
     ⟨(some 25), .mv (.t 7), none⟩,
     ⟨(some 26), .bin .add (.t 25) (.c (.int .i64 1)), none⟩,
     ⟨(some 7), .mv (.t 26), none⟩] [0, 1, 5, 6, 7]))))))
 (.seq (.seq (.ops [
   ⟨(some 8), .mv (.c (.bool true)), none⟩] [0, 5, 6, 8])
 (.block 2 (.loop (.seq (.seq (.ops [
     ⟨(some 50), .mv (.t 8), none⟩] [0, 5, 6, 50])
 (.cond (.t 50)
 .skip
 (.exit 2)))
 (.block 3 (.seq (.ops [
      ⟨(some 8), .mv (.c (.bool false)), none⟩] [0, 5, 6, 8])
 (.seq (.ops [
      ⟨(some 9), .mv (.c (.int .i64 0)), none⟩] [0, 5, 6, 8, 9])
 (.block 4 (.loop (.seq (.seq (.ops [
        ⟨(some 51), .mv (.t 9), none⟩,
        ⟨(some 52), .mv (.t 0), none⟩,
        ⟨(some 53), .lenS (.t 52), none⟩,
        ⟨(some 54), .bin .lss (.t 51) (.t 53), none⟩] [0, 5, 6, 8, 9, 54])
 (.cond (.t 54)
 .skip
 (.exit 4)))
 (.seq (.block 5 (.seq (.ops [
         ⟨(some 57), .mv (.t 0), none⟩,
         ⟨(some 58), .mv (.t 9), none⟩,
         ⟨(some 59), .iaddrS 4 (.t 57) (.t 58), none⟩,
         ⟨(some 60), .load (some 4) (.t 59), none⟩,
         ⟨(some 10), .alloc ([.int .i64 0, .int .i64 0, .int .i64 0, .int .i64 0]), none⟩,
         ⟨none, .store 4 (.t 10) (.t 60), none⟩] [0, 5, 6, 8, 9, 10])
 ir_bandboxref15_Know_61))
 (.ops [
        ⟨(some 55), .mv (.t 9), none⟩,
        ⟨(some 56), .bin .add (.t 55) (.c (.int .i64 1)), none⟩,
        ⟨(some 9), .mv (.t 56), none⟩] [0, 5, 6, 8, 9]))))))))))))
 (.seq (.ops [
   ⟨(some 11), .mv (.c (.slice none 0 0)), none⟩] [0, 5, 6, 11])
 (.seq (.seq (.ops [
   ⟨(some 12), .mv (.c (.int .i64 0)), none⟩] [0, 5, 6, 11, 12])
 (.block 6 (.loop (.seq (.seq (.ops [
     ⟨(some 186), .mv (.t 12), none⟩,
     ⟨(some 187), .mv (.t 0), none⟩,
     ⟨(some 188), .lenS (.t 187), none⟩,
     ⟨(some 189), .bin .lss (.t 186) (.t 188), none⟩] [0, 5, 6, 11, 12, 189])
 (.cond (.t 189)
 .skip
 (.exit 6)))
 (.seq (.block 7 (.seq (.ops [
      ⟨(some 192), .mv (.t 6), none⟩,
      ⟨(some 193), .mv (.t 5), none⟩,
      ⟨(some 194), .mv (.t 12), none⟩,
      ⟨(some 195), .iaddrS 1 (.t 193) (.t 194), none⟩,
      ⟨(some 196), .load none (.t 195), none⟩,
      ⟨(some 197), .iaddrS 1 (.t 192) (.t 196), none⟩,
      ⟨(some 198), .load none (.t 197), none⟩] [0, 5, 6, 11, 12, 198])
 (.cond (.t 198)
 (.ops [
       ⟨(some 199), .mv (.t 11), none⟩,
       ⟨(some 200), .mv (.t 12), none⟩,
       ⟨(some 201), .bslice 1 1 ([.int .i64 0]) [(0, 1, .t 200)], none⟩,
       ⟨(some 202), .append 1 8 (.t 199) (.t 201), none⟩,
       ⟨(some 11), .mv (.t 202), none⟩] [0, 5, 6, 11, 12])
 .skip)))
 (.ops [
     ⟨(some 190), .mv (.t 12), none⟩,
     ⟨(some 191), .bin .add (.t 190) (.c (.int .i64 1)), none⟩,
     ⟨(some 12), .mv (.t 191), none⟩] [0, 5, 6, 11, 12]))))))
 (.seq (.ops [
   ⟨(some 203), .mv (.t 11), none⟩,
   ⟨(some 4), .mv (.t 203), none⟩] [4])
 .ret)))))))))⟩

def h_bandboxlaw18_things : Hint := [(0, [0], []), (1, [0, 3], []), (2, [0, 3, 4], []), (3, [0, 3, 4, 8], []), (4, [0, 3, 4], []), (5, [0, 3, 4], [(0, 0), (1, 0), (2, 0), (3, 0), (4, 0), (5, 0), (6, 0), (7, 0), (8, 0), (9, 0), (10, 0), (11, 0), (12, 0), (13, 0), (14, 0), (15, 0), (16, 0), (17, 0), (18, 0), (19, 0), (20, 0), (21, 0), (22, 0), (23, 0), (24, 0)]), (6, [2], [])]
def ir_bandboxlaw18_things : AFunc := ⟨1, 36, [.tmp 2],
 (.seq (.ops [
   ⟨(some 2), .mv (.c (.slice none 0 0)), none⟩] [0])
 (.seq (.ops [
   ⟨(some 3), .mv (.c (.slice none 0 0)), none⟩] [0, 3])
 (.seq (.seq (.ops [
   ⟨(some 4), .mv (.c (.int .i64 0)), none⟩] [0, 3, 4])
 (.block 0
  (.loop
   (.seq (.seq (.ops [
     ⟨(some 5), .mv (.t 4), none⟩,
     ⟨(some 6), .mv (.t 0), none⟩,
     ⟨(some 7), .lenS (.t 6), none⟩,
     ⟨(some 8), .bin .lss (.t 5) (.t 7), none⟩] [0, 3, 4, 8])
   (.cond (.t 8)
    .skip
    (.exit 0)))
   (.seq (.block 1
    (.dops [
      ⟨0, (some 11), .mv (.t 3), none, 0⟩,
      ⟨1, (some 12), .mv (.t 0), none, 0⟩,
      ⟨2, (some 13), .mv (.t 4), none, 0⟩,
      ⟨3, (some 14), .iaddrS 4 (.t 12) (.t 13), none, 0⟩,
      ⟨4, (some 15), .faddr 0 (.t 14), none, 0⟩,
      ⟨5, (some 16), .load none (.t 15), none, 0⟩,
      ⟨6, (some 17), .mv (.t 0), none, 0⟩,
      ⟨7, (some 18), .mv (.t 4), none, 0⟩,
      ⟨8, (some 19), .iaddrS 4 (.t 17) (.t 18), none, 0⟩,
      ⟨9, (some 20), .faddr 1 (.t 19), none, 0⟩,
      ⟨10, (some 21), .load none (.t 20), none, 0⟩,
      ⟨11, (some 22), .mv (.t 0), none, 0⟩,
      ⟨12, (some 23), .mv (.t 4), none, 0⟩,
      ⟨13, (some 24), .iaddrS 4 (.t 22) (.t 23), none, 0⟩,
      ⟨14, (some 25), .faddr 2 (.t 24), none, 0⟩,
      ⟨15, (some 26), .load none (.t 25), none, 0⟩,
      ⟨16, (some 27), .mv (.t 0), none, 0⟩,
      ⟨17, (some 28), .mv (.t 4), none, 0⟩,
      ⟨18, (some 29), .iaddrS 4 (.t 27) (.t 28), none, 0⟩,
      ⟨19, (some 30), .faddr 3 (.t 29), none, 0⟩,
      ⟨20, (some 31), .load none (.t 30), none, 0⟩,
      ⟨21, (some 32), .build ([.int .i64 0, .int .i64 0, .int .i64 0, .int .i64 0]) [(0, 1, .t 16), (1, 1, .t 21), (2, 1, .t 26), (3, 1, .t 31)], none, 0⟩,
      ⟨22, (some 33), .bslice 1 4 ([.int .i64 0, .int .i64 0, .int .i64 0, .int .i64 0]) [(0, 4, .t 32)], none, 0⟩,
      ⟨23, (some 34), .append 4 32 (.t 11) (.t 33), none, 0⟩,
      ⟨24, (some 3), .mv (.t 34), none, 0⟩] [0, 3, 4]))
   (.ops [
     ⟨(some 9), .mv (.t 4), none⟩,
     ⟨(some 10), .bin .add (.t 9) (.c (.int .i64 1)), none⟩,
     ⟨(some 4), .mv (.t 10), none⟩] [0, 3, 4]))))))
 (.seq (.ops [
   ⟨(some 35), .mv (.t 3), none⟩,
   ⟨(some 2), .mv (.t 35), none⟩] [2])
 .ret))))⟩

def h_bandboxref15_SameThing : Hint := [(0, [0, 1, 2], []), (1, [0, 1, 2, 30], []), (2, [6], []), (3, [1, 2, 7], []), (4, [6], [(0, 0), (1, 0), (2, 0), (3, 0), (4, 0), (5, 0), (6, 0), (7, 0), (8, 0), (9, 0)])]
def ir_bandboxref15_SameThing : AFunc := ⟨3, 42, [.tmp 6],
 (.seq (.ops [
   ⟨(some 6), .mv (.c (.bool false)), none⟩] [0, 1, 2])
 (.seq (.seq (.ops [
   ⟨(some 8), .mv (.t 0), none⟩,
   ⟨(some 9), .call 25 [.t 8], none⟩,
   ⟨(some 10), .un .not (.t 9), none⟩,
   ⟨(some 11), .mv (.t 10), none⟩,
   ⟨(some 12), .mv (.t 1), (some (11, false))⟩,
   ⟨(some 13), .bin .lss (.t 12) (.c (.int .i64 0)), (some (11, false))⟩,
   ⟨(some 14), .pick (.t 11) (.c (.bool true)) (.t 13), none⟩,
   ⟨(some 15), .mv (.t 14), none⟩,
   ⟨(some 16), .mv (.t 2), (some (15, false))⟩,
   ⟨(some 17), .bin .lss (.t 16) (.c (.int .i64 0)), (some (15, false))⟩,
   ⟨(some 18), .pick (.t 15) (.c (.bool true)) (.t 17), none⟩,
   ⟨(some 19), .mv (.t 18), none⟩,
   ⟨(some 20), .mv (.t 1), (some (19, false))⟩,
   ⟨(some 21), .mv (.t 0), (some (19, false))⟩,
   ⟨(some 22), .lenS (.t 21), (some (19, false))⟩,
   ⟨(some 23), .bin .geq (.t 20) (.t 22), (some (19, false))⟩,
   ⟨(some 24), .pick (.t 19) (.c (.bool true)) (.t 23), none⟩,
   ⟨(some 25), .mv (.t 24), none⟩,
   ⟨(some 26), .mv (.t 2), (some (25, false))⟩,
   ⟨(some 27), .mv (.t 0), (some (25, false))⟩,
   ⟨(some 28), .lenS (.t 27), (some (25, false))⟩,
   ⟨(some 29), .bin .geq (.t 26) (.t 28), (some (25, false))⟩,
   ⟨(some 30), .pick (.t 25) (.c (.bool true)) (.t 29), none⟩] [0, 1, 2, 30])
 (.cond (.t 30)
  (.seq (.ops [
    ⟨(some 6), .mv (.c (.bool false)), none⟩] [6])
  .ret)
  .skip))
 (.seq (.ops [
   ⟨(some 31), .mv (.t 0), none⟩,
   ⟨(some 32), .call 50 [.t 31], none⟩,
   ⟨(some 7), .mv (.t 32), none⟩] [1, 2, 7])
 (.seq (.dops [
   ⟨0, (some 33), .mv (.t 7), none, 0⟩,
   ⟨1, (some 34), .mv (.t 1), none, 0⟩,
   ⟨2, (some 35), .iaddrS 1 (.t 33) (.t 34), none, 0⟩,
   ⟨3, (some 36), .load none (.t 35), none, 0⟩,
   ⟨4, (some 37), .mv (.t 7), none, 0⟩,
   ⟨5, (some 38), .mv (.t 2), none, 0⟩,
   ⟨6, (some 39), .iaddrS 1 (.t 37) (.t 38), none, 0⟩,
   ⟨7, (some 40), .load none (.t 39), none, 0⟩,
   ⟨8, (some 41), .bin .eql (.t 36) (.t 40), none, 0⟩,
   ⟨9, (some 6), .mv (.t 41), none, 0⟩] [6])
 .ret))))⟩

def h_bandboxref15_GoodTable : Hint := [(0, [0], []), (1, [0, 3], []), (2, [0, 3, 7], []), (3, [0, 3], []), (4, [0, 3, 81], []), (5, [2], []), (6, [2], [])]
def ir_bandboxref15_GoodTable : AFunc := ⟨1, 85, [.tmp 2],
 (.seq (.ops [
   ⟨(some 2), .mv (.c (.bool false)), none⟩] [0])
 (.seq (.seq (.ops [
   ⟨(some 3), .mv (.c (.int .i64 0)), none⟩] [0, 3])
 (.block 0
  (.loop
   (.seq (.seq (.ops [
     ⟨(some 4), .mv (.t 3), none⟩,
     ⟨(some 5), .mv (.t 0), none⟩,
     ⟨(some 6), .lenS (.t 5), none⟩,
     ⟨(some 7), .bin .lss (.t 4) (.t 6), none⟩] [0, 3, 7])
   (.cond (.t 7)
    .skip
    (.exit 0)))
   (.seq (.block 1
    (.seq (.ops [
      ⟨(some 10), .mv (.t 0), none⟩,
      ⟨(some 11), .mv (.t 3), none⟩,
      ⟨(some 12), .iaddrS 4 (.t 10) (.t 11), none⟩,
      ⟨(some 13), .faddr 0 (.t 12), none⟩,
      ⟨(some 14), .load none (.t 13), none⟩,
      ⟨(some 15), .bin .lss (.t 14) (.c (.int .i64 1)), none⟩,
      ⟨(some 16), .mv (.t 15), none⟩,
      ⟨(some 17), .mv (.t 0), (some (16, false))⟩,
      ⟨(some 18), .mv (.t 3), (some (16, false))⟩,
      ⟨(some 19), .iaddrS 4 (.t 17) (.t 18), (some (16, false))⟩,
      ⟨(some 20), .faddr 0 (.t 19), (some (16, false))⟩,
      ⟨(some 21), .load none (.t 20), (some (16, false))⟩,
      ⟨(some 22), .bin .gtr (.t 21) (.c (.int .i64 4)), (some (16, false))⟩,
      ⟨(some 23), .pick (.t 16) (.c (.bool true)) (.t 22), none⟩,
      ⟨(some 24), .mv (.t 23), none⟩,
      ⟨(some 25), .mv (.t 0), (some (24, false))⟩,
      ⟨(some 26), .mv (.t 3), (some (24, false))⟩,
      ⟨(some 27), .iaddrS 4 (.t 25) (.t 26), (some (24, false))⟩,
      ⟨(some 28), .faddr 0 (.t 27), (some (24, false))⟩,
      ⟨(some 29), .load none (.t 28), (some (24, false))⟩,
      ⟨(some 30), .bin .gtr (.t 29) (.c (.int .i64 1)), (some (24, false))⟩,
      ⟨(some 31), .mv (.t 30), (some (24, false))⟩,
      ⟨(some 32), .mv (.t 0), (some (31, true))⟩,
      ⟨(some 33), .mv (.t 3), (some (31, true))⟩,
      ⟨(some 34), .iaddrS 4 (.t 32) (.t 33), (some (31, true))⟩,
      ⟨(some 35), .faddr 1 (.t 34), (some (31, true))⟩,
      ⟨(some 36), .load none (.t 35), (some (31, true))⟩,
      ⟨(some 37), .bin .lss (.t 36) (.c (.int .i64 0)), (some (31, true))⟩,
      ⟨(some 38), .mv (.t 37), (some (31, true))⟩,
      ⟨(some 39), .mv (.t 0), (some (38, false))⟩,
      ⟨(some 40), .mv (.t 3), (some (38, false))⟩,
      ⟨(some 41), .iaddrS 4 (.t 39) (.t 40), (some (38, false))⟩,
      ⟨(some 42), .faddr 1 (.t 41), (some (38, false))⟩,
      ⟨(some 43), .load none (.t 42), (some (38, false))⟩,
      ⟨(some 44), .mv (.t 3), (some (38, false))⟩,
      ⟨(some 45), .bin .geq (.t 43) (.t 44), (some (38, false))⟩,
      ⟨(some 46), .pick (.t 38) (.c (.bool true)) (.t 45), (some (31, true))⟩,
      ⟨(some 47), .pick (.t 31) (.t 46) (.c (.bool false)), (some (24, false))⟩,
      ⟨(some 48), .pick (.t 24) (.c (.bool true)) (.t 47), none⟩,
      ⟨(some 49), .mv (.t 48), none⟩,
      ⟨(some 50), .mv (.t 0), (some (49, false))⟩,
      ⟨(some 51), .mv (.t 3), (some (49, false))⟩,
      ⟨(some 52), .iaddrS 4 (.t 50) (.t 51), (some (49, false))⟩,
      ⟨(some 53), .faddr 0 (.t 52), (some (49, false))⟩,
      ⟨(some 54), .load none (.t 53), (some (49, false))⟩,
      ⟨(some 55), .bin .eql (.t 54) (.c (.int .i64 2)), (some (49, false))⟩,
      ⟨(some 56), .mv (.t 55), (some (49, false))⟩,
      ⟨(some 57), .mv (.t 0), (some (56, false))⟩,
      ⟨(some 58), .mv (.t 3), (some (56, false))⟩,
      ⟨(some 59), .iaddrS 4 (.t 57) (.t 58), (some (56, false))⟩,
      ⟨(some 60), .faddr 0 (.t 59), (some (56, false))⟩,
      ⟨(some 61), .load none (.t 60), (some (56, false))⟩,
      ⟨(some 62), .bin .eql (.t 61) (.c (.int .i64 3)), (some (56, false))⟩,
      ⟨(some 63), .pick (.t 56) (.c (.bool true)) (.t 62), (some (49, false))⟩,
      ⟨(some 64), .mv (.t 63), (some (49, false))⟩,
      ⟨(some 65), .mv (.t 0), (some (64, true))⟩,
      ⟨(some 66), .mv (.t 3), (some (64, true))⟩,
      ⟨(some 67), .iaddrS 4 (.t 65) (.t 66), (some (64, true))⟩,
      ⟨(some 68), .faddr 2 (.t 67), (some (64, true))⟩,
      ⟨(some 69), .load none (.t 68), (some (64, true))⟩,
      ⟨(some 70), .bin .lss (.t 69) (.c (.int .i64 0)), (some (64, true))⟩,
      ⟨(some 71), .mv (.t 70), (some (64, true))⟩,
      ⟨(some 72), .mv (.t 0), (some (71, false))⟩,
      ⟨(some 73), .mv (.t 3), (some (71, false))⟩,
      ⟨(some 74), .iaddrS 4 (.t 72) (.t 73), (some (71, false))⟩,
      ⟨(some 75), .faddr 2 (.t 74), (some (71, false))⟩,
      ⟨(some 76), .load none (.t 75), (some (71, false))⟩,
      ⟨(some 77), .mv (.t 3), (some (71, false))⟩,
      ⟨(some 78), .bin .geq (.t 76) (.t 77), (some (71, false))⟩,
      ⟨(some 79), .pick (.t 71) (.c (.bool true)) (.t 78), (some (64, true))⟩,
      ⟨(some 80), .pick (.t 64) (.t 79) (.c (.bool false)), (some (49, false))⟩,
      ⟨(some 81), .pick (.t 49) (.c (.bool true)) (.t 80), none⟩] [0, 3, 81])
    (.cond (.t 81)
     (.seq (.ops [
       ⟨(some 2), .mv (.c (.bool false)), none⟩] [2])
     .ret)
     .skip)))
   (.ops [
     ⟨(some 8), .mv (.t 3), none⟩,
     ⟨(some 9), .bin .add (.t 8) (.c (.int .i64 1)), none⟩,
     ⟨(some 3), .mv (.t 9), none⟩] [0, 3]))))))
 (.seq (.ops [
   ⟨(some 82), .mv (.t 0), none⟩,
   ⟨(some 83), .lenS (.t 82), none⟩,
   ⟨(some 84), .bin .leq (.t 83) (.c (.int .i64 500)), none⟩,
   ⟨(some 2), .mv (.t 84), none⟩] [2])
 .ret)))⟩

def h_bandboxlaw18_box : Hint := [(0, [], []), (1, [0], [])]
def ir_bandboxlaw18_box : AFunc := ⟨0, 5, [.tmp 0],
 (.seq (.ops [
   ⟨(some 0), .mv (.c (.slice none 0 0)), none⟩] [])
 (.seq (.ops [
   ⟨(some 1), .build ([.int .i64 0, .int .i64 0, .int .i64 0, .int .i64 0]) [(0, 1, .c (.int .i64 1))], none⟩,
   ⟨(some 2), .build ([.int .i64 0, .int .i64 0, .int .i64 0, .int .i64 0]) [(0, 1, .c (.int .i64 1))], none⟩,
   ⟨(some 3), .build ([.int .i64 0, .int .i64 0, .int .i64 0, .int .i64 0]) [(0, 1, .c (.int .i64 3)), (1, 1, .c (.int .i64 0)), (2, 1, .c (.int .i64 1))], none⟩,
   ⟨(some 4), .bslice 3 4 ([.int .i64 0, .int .i64 0, .int .i64 0, .int .i64 0]) [(0, 4, .t 1), (4, 4, .t 2), (8, 4, .t 3)], none⟩,
   ⟨(some 0), .mv (.t 4), none⟩] [0])
 .ret))⟩

def h_know_below : Hint := [(0, [0, 1], []), (1, [4], [])]
def ir_know_below : AFunc := ⟨2, 12, [.tmp 4],
 (.seq (.ops [
   ⟨(some 4), .mv (.c (.bool false)), none⟩] [0, 1])
 (.seq (.ops [
   ⟨(some 5), .mv (.t 0), none⟩,
   ⟨(some 6), .bin .geq (.t 5) (.c (.int .i64 0)), none⟩,
   ⟨(some 7), .mv (.t 6), none⟩,
   ⟨(some 8), .mv (.t 0), (some (7, true))⟩,
   ⟨(some 9), .mv (.t 1), (some (7, true))⟩,
   ⟨(some 10), .bin .lss (.t 8) (.t 9), (some (7, true))⟩,
   ⟨(some 11), .pick (.t 7) (.t 10) (.c (.bool false)), none⟩,
   ⟨(some 4), .mv (.t 11), none⟩] [4])
 .ret))⟩

def h_know_firsts : Hint := [(0, [0], []), (1, [0, 3], []), (2, [0, 3, 4], []), (3, [3, 4, 14, 15, 16], []), (4, [3, 4, 14, 15, 16, 17], []), (5, [3, 4, 5, 6, 14, 15, 16], []), (6, [3, 4, 5, 6, 7, 14, 15, 16], []), (7, [3, 4, 5, 6, 7, 14, 15, 16, 25], []), (8, [3, 4, 5, 6, 7, 14, 15, 16, 25, 26], []), (9, [3, 4, 5, 7, 14, 15, 16], []), (10, [3, 4, 5, 6, 7, 14, 15, 16, 25, 30], []), (11, [3, 4, 5, 6, 7, 14, 15, 16, 25, 30], []), (12, [3, 4, 5, 7, 14, 15, 16], [(0, 0), (1, 0), (2, 0), (3, 0), (4, 0), (10, 0), (11, 0), (5, 1), (6, 1), (7, 1), (8, 1), (9, 1), (12, 0), (13, 0)]), (13, [3, 4, 5, 6, 7, 14, 15, 16, 45], []), (14, [3, 4, 5, 7, 14, 15, 16], [(0, 0), (1, 0), (2, 0), (3, 0), (4, 0), (7, 0), (8, 0), (5, 1), (6, 1), (9, 0), (10, 0)]), (15, [3, 4, 5, 7, 8, 9, 14, 15, 16], []), (16, [3, 4, 5, 7, 8, 14, 15, 16, 63], []), (17, [3, 4, 5, 7, 8, 14, 15, 16], []), (18, [3, 4, 5, 8, 14, 15, 16], []), (19, [3, 4, 14, 15, 16], []), (20, [3, 4, 14, 15, 16], []), (21, [2], [])]
def ir_know_firsts_57 : ACode := (.seq (.ops [
      ⟨(some 57), .mv (.t 4), none⟩,
      ⟨(some 58), .load (some 4) (.t 7), none⟩,
      ⟨(some 59), .lookup (.agg ([some .i64, some .i64, some .i64, some .i64])) (.int .i64 0) true (.t 57) (.t 58), none⟩,
      ⟨(some 56), .mv (.t 59), none⟩,
      ⟨(some 60), .ext (.t 56) 0, none⟩,
      ⟨(some 61), .ext (.t 56) 1, none⟩,
      ⟨(some 8), .mv (.t 60), none⟩,
      ⟨(some 9), .mv (.t 61), none⟩] [3, 4, 5, 7, 8, 9, 14, 15, 16])
 (.seq (.seq (.ops [
      ⟨(some 62), .mv (.t 9), none⟩,
      ⟨(some 63), .un .not (.t 62), none⟩] [3, 4, 5, 7, 8, 14, 15, 16, 63])
 (.cond (.t 63)
 (.seq (.ops [
       ⟨(some 64), .mv (.t 5), none⟩,
       ⟨(some 8), .mv (.t 64), none⟩] [3, 4, 5, 7, 8, 14, 15, 16])
 (.ops [
       ⟨(some 65), .mv (.t 4), none⟩,
       ⟨(some 66), .load (some 4) (.t 7), none⟩,
       ⟨(some 67), .mv (.t 5), none⟩,
       ⟨none, .mupd (.agg ([some .i64, some .i64, some .i64, some .i64])) (.t 65) (.t 66) (.t 67), none⟩] [3, 4, 5, 8, 14, 15, 16]))
 .skip))
 (.ops [
      ⟨(some 68), .mv (.t 3), none⟩,
      ⟨(some 69), .mv (.t 5), none⟩,
      ⟨(some 70), .mv (.t 8), none⟩,
      ⟨(some 71), .iaddrS 1 (.t 68) (.t 69), none⟩,
      ⟨none, .store 1 (.t 71) (.t 70), none⟩] [3, 4, 14, 15, 16])))
def ir_know_firsts : AFunc := ⟨1, 74, [.tmp 2],
 (.seq (.ops [
   ⟨(some 2), .mv (.c (.slice none 0 0)), none⟩] [0])
 (.seq (.ops [
   ⟨(some 10), .mv (.t 0), none⟩,
   ⟨(some 11), .lenS (.t 10), none⟩,
   ⟨(some 12), .mslice 8 ([.int .i64 0]) (.t 11) (.t 11), none⟩,
   ⟨(some 3), .mv (.t 12), none⟩] [0, 3])
 (.seq (.ops [
   ⟨(some 13), .mmap, none⟩,
   ⟨(some 4), .mv (.t 13), none⟩] [0, 3, 4])
 (.seq (.seq (.ops [
   ⟨(some 14), .mv (.t 0), none⟩,
   ⟨(some 15), .lenS (.t 14), none⟩,
   ⟨(some 16), .mv (.c (.int .i64 0)), none⟩] [3, 4, 14, 15, 16])
 (.block 0 (.loop (.seq (.ops [
     ⟨(some 17), .bin .lss (.t 16) (.t 15), none⟩] [3, 4, 14, 15, 16, 17])
 (.seq (.cond (.t 17)
 .skip
 (.exit 0))
 (.seq (.block 1 (.seq (.ops [
      ⟨(some 18), .mv (.t 16), none⟩,
      ⟨(some 19), .iaddrS 4 (.t 14) (.t 16), none⟩,
      ⟨(some 20), .load (some 4) (.t 19), none⟩,
      ⟨(some 6), .alloc ([.int .i64 0, .int .i64 0, .int .i64 0, .int .i64 0]), none⟩,
      ⟨(some 5), .mv (.t 18), none⟩,
      ⟨none, .store 4 (.t 6) (.t 20), none⟩] [3, 4, 5, 6, 14, 15, 16])
 (.seq (.ops [
      ⟨(some 21), .faddr 0 (.t 6), none⟩,
      ⟨(some 22), .load none (.t 21), none⟩,
      ⟨(some 23), .build ([.int .i64 0, .int .i64 0, .int .i64 0, .int .i64 0]) [(0, 1, .t 22)], none⟩,
      ⟨(some 7), .alloc ([.int .i64 0, .int .i64 0, .int .i64 0, .int .i64 0]), none⟩,
      ⟨none, .store 4 (.t 7) (.t 23), none⟩] [3, 4, 5, 6, 7, 14, 15, 16])
 (.seq (.seq (.ops [
      ⟨(some 24), .faddr 0 (.t 6), none⟩,
      ⟨(some 25), .load none (.t 24), none⟩] [3, 4, 5, 6, 7, 14, 15, 16, 25])
 (.block 2 (.seq (.ops [
       ⟨(some 27), .bin .eql (.t 25) (.c (.int .i64 1)), none⟩,
       ⟨(some 26), .mv (.t 27), none⟩] [3, 4, 5, 6, 7, 14, 15, 16, 25, 26])
 (.cond (.t 26)
 (.ops [
        ⟨(some 28), .mv (.t 5), none⟩,
        ⟨(some 29), .faddr 3 (.t 7), none⟩,
        ⟨none, .store 1 (.t 29) (.t 28), none⟩] [3, 4, 5, 7, 14, 15, 16])
 (.seq (.seq (.ops [
        ⟨(some 31), .bin .eql (.t 25) (.c (.int .i64 2)), none⟩,
        ⟨(some 30), .mv (.t 31), none⟩] [3, 4, 5, 6, 7, 14, 15, 16, 25, 30])
 (.cond (.t 30)
 .skip
 (.ops [
         ⟨(some 32), .bin .eql (.t 25) (.c (.int .i64 3)), none⟩,
         ⟨(some 30), .mv (.t 32), none⟩] [3, 4, 5, 6, 7, 14, 15, 16, 25, 30])))
 (.cond (.t 30)
 (.dops [
         ⟨0, (some 33), .mv (.t 3), none, 0⟩,
         ⟨1, (some 34), .faddr 1 (.t 6), none, 0⟩,
         ⟨2, (some 35), .load none (.t 34), none, 0⟩,
         ⟨3, (some 36), .iaddrS 1 (.t 33) (.t 35), none, 0⟩,
         ⟨4, (some 37), .load none (.t 36), none, 0⟩,
         ⟨10, (some 43), .faddr 1 (.t 7), none, 0⟩,
         ⟨11, none, .store 1 (.t 43) (.t 37), none, 0⟩,
         ⟨5, (some 38), .mv (.t 3), none, 1⟩,
         ⟨6, (some 39), .faddr 2 (.t 6), none, 1⟩,
         ⟨7, (some 40), .load none (.t 39), none, 1⟩,
         ⟨8, (some 41), .iaddrS 1 (.t 38) (.t 40), none, 1⟩,
         ⟨9, (some 42), .load none (.t 41), none, 1⟩,
         ⟨12, (some 44), .faddr 2 (.t 7), none, 0⟩,
         ⟨13, none, .store 1 (.t 44) (.t 42), none, 0⟩] [3, 4, 5, 7, 14, 15, 16])
 (.seq (.ops [
         ⟨(some 46), .bin .eql (.t 25) (.c (.int .i64 4)), none⟩,
         ⟨(some 45), .mv (.t 46), none⟩] [3, 4, 5, 6, 7, 14, 15, 16, 45])
 (.cond (.t 45)
 (.dops [
          ⟨0, (some 47), .mv (.t 3), none, 0⟩,
          ⟨1, (some 48), .faddr 1 (.t 6), none, 0⟩,
          ⟨2, (some 49), .load none (.t 48), none, 0⟩,
          ⟨3, (some 50), .iaddrS 1 (.t 47) (.t 49), none, 0⟩,
          ⟨4, (some 51), .load none (.t 50), none, 0⟩,
          ⟨7, (some 54), .faddr 1 (.t 7), none, 0⟩,
          ⟨8, none, .store 1 (.t 54) (.t 51), none, 0⟩,
          ⟨5, (some 52), .faddr 3 (.t 6), none, 1⟩,
          ⟨6, (some 53), .load none (.t 52), none, 1⟩,
          ⟨9, (some 55), .faddr 3 (.t 7), none, 0⟩,
          ⟨10, none, .store 1 (.t 55) (.t 53), none, 0⟩] [3, 4, 5, 7, 14, 15, 16])
 .skip))))))))
 ir_know_firsts_57))))
 (.ops [
     ⟨(some 72), .bin .add (.t 16) (.c (.int .i64 1)), none⟩,
     ⟨(some 16), .mv (.t 72), none⟩] [3, 4, 14, 15, 16])))))))
 (.seq (.ops [
   ⟨(some 73), .mv (.t 3), none⟩,
   ⟨(some 2), .mv (.t 73), none⟩] [2])
 .ret)))))⟩

def h_know_knower_learn : Hint := [(0, [0, 1], []), (1, [0, 1, 5], []), (2, [5], [(0, 0), (1, 0), (2, 0), (3, 0), (4, 0), (5, 0), (6, 0), (7, 0), (8, 0), (9, 0), (10, 0), (11, 0), (12, 0)]), (3, [4], [])]
def ir_know_knower_learn : AFunc := ⟨2, 23, [.tmp 4],
 (.seq (.ops [
   ⟨(some 4), .mv (.c (.bool false)), none⟩] [0, 1])
 (.seq (.ops [
   ⟨(some 6), .mv (.t 0), none⟩,
   ⟨(some 7), .mv (.t 1), none⟩,
   ⟨(some 8), .call 49 [.t 6, .t 7], none⟩,
   ⟨(some 9), .un .not (.t 8), none⟩,
   ⟨(some 5), .mv (.t 9), none⟩] [0, 1, 5])
 (.seq (.dops [
   ⟨0, (some 10), .mv (.t 0), none, 0⟩,
   ⟨1, (some 11), .nilc (.t 10), none, 0⟩,
   ⟨2, (some 12), .faddr 2 (.t 11), none, 0⟩,
   ⟨3, (some 13), .load none (.t 12), none, 0⟩,
   ⟨4, (some 14), .mv (.t 0), none, 0⟩,
   ⟨5, (some 15), .nilc (.t 14), none, 0⟩,
   ⟨6, (some 16), .faddr 1 (.t 15), none, 0⟩,
   ⟨7, (some 17), .load none (.t 16), none, 0⟩,
   ⟨8, (some 18), .mv (.t 1), none, 0⟩,
   ⟨9, (some 19), .iaddrS 1 (.t 17) (.t 18), none, 0⟩,
   ⟨10, (some 20), .load none (.t 19), none, 0⟩,
   ⟨11, (some 21), .iaddrS 1 (.t 13) (.t 20), none, 0⟩,
   ⟨12, none, .store 1 (.t 21) (.c (.bool true)), none, 0⟩] [5])
 (.seq (.ops [
   ⟨(some 22), .mv (.t 5), none⟩,
   ⟨(some 4), .mv (.t 22), none⟩] [4])
 .ret))))⟩

def h_know_knower_step : Hint := [(0, [0, 1], []), (1, [0, 1, 5], []), (2, [0, 1, 5, 17], []), (3, [0, 5, 18], []), (4, [6, 7], [(0, 0), (1, 0), (2, 0), (3, 0), (4, 1), (5, 1), (6, 1), (7, 0), (8, 0), (9, 0)]), (5, [4], []), (6, [0, 5, 34], []), (7, [4], []), (8, [4], []), (9, [0, 1, 5, 49], []), (10, [0, 1, 5, 49, 50], []), (11, [0, 1, 5, 49, 50], []), (12, [4], []), (13, [0, 1, 5, 68], []), (14, [4], []), (15, [4], [])]
def ir_know_knower_step : AFunc := ⟨2, 79, [.tmp 4],
 (.seq (.ops [
   ⟨(some 4), .mv (.c (.bool false)), none⟩] [0, 1])
 (.seq (.ops [
   ⟨(some 8), .mv (.t 0), none⟩,
   ⟨(some 9), .nilc (.t 8), none⟩,
   ⟨(some 10), .faddr 0 (.t 9), none⟩,
   ⟨(some 11), .load none (.t 10), none⟩,
   ⟨(some 12), .mv (.t 1), none⟩,
   ⟨(some 13), .iaddrS 4 (.t 11) (.t 12), none⟩,
   ⟨(some 14), .load (some 4) (.t 13), none⟩,
   ⟨(some 5), .alloc ([.int .i64 0, .int .i64 0, .int .i64 0, .int .i64 0]), none⟩,
   ⟨none, .store 4 (.t 5) (.t 14), none⟩] [0, 1, 5])
 (.seq (.seq (.ops [
   ⟨(some 15), .mv (.t 0), none⟩,
   ⟨(some 16), .mv (.t 1), none⟩,
   ⟨(some 17), .call 49 [.t 15, .t 16], none⟩] [0, 1, 5, 17])
 (.cond (.t 17)
  (.seq (.block 0
   (.seq (.ops [
     ⟨(some 19), .faddr 0 (.t 5), none⟩,
     ⟨(some 20), .load none (.t 19), none⟩,
     ⟨(some 21), .bin .eql (.t 20) (.c (.int .i64 2)), none⟩,
     ⟨(some 18), .mv (.t 21), none⟩] [0, 5, 18])
   (.cond (.t 18)
    (.seq (.dops [
      ⟨0, (some 22), .mv (.t 0), none, 0⟩,
      ⟨1, (some 23), .faddr 1 (.t 5), none, 0⟩,
      ⟨2, (some 24), .load none (.t 23), none, 0⟩,
      ⟨3, (some 25), .call 47 [.t 22, .t 24], none, 0⟩,
      ⟨4, (some 26), .mv (.t 0), none, 1⟩,
      ⟨5, (some 27), .faddr 2 (.t 5), none, 1⟩,
      ⟨6, (some 28), .load none (.t 27), none, 1⟩,
      ⟨7, (some 29), .call 47 [.t 26, .t 28], none, 0⟩,
      ⟨8, (some 6), .mv (.t 25), none, 0⟩,
      ⟨9, (some 7), .mv (.t 29), none, 0⟩] [6, 7])
    (.seq (.ops [
      ⟨(some 30), .mv (.t 6), none⟩,
      ⟨(some 31), .mv (.t 30), none⟩,
      ⟨(some 32), .mv (.t 7), (some (31, false))⟩,
      ⟨(some 33), .pick (.t 31) (.c (.bool true)) (.t 32), none⟩,
      ⟨(some 4), .mv (.t 33), none⟩] [4])
    .ret))
    (.seq (.ops [
      ⟨(some 35), .faddr 0 (.t 5), none⟩,
      ⟨(some 36), .load none (.t 35), none⟩,
      ⟨(some 37), .bin .eql (.t 36) (.c (.int .i64 3)), none⟩,
      ⟨(some 38), .mv (.t 37), none⟩,
      ⟨(some 39), .mv (.t 0), (some (38, true))⟩,
      ⟨(some 40), .faddr 1 (.t 5), (some (38, true))⟩,
      ⟨(some 41), .load none (.t 40), (some (38, true))⟩,
      ⟨(some 42), .call 49 [.t 39, .t 41], (some (38, true))⟩,
      ⟨(some 43), .pick (.t 38) (.t 42) (.c (.bool false)), none⟩,
      ⟨(some 34), .mv (.t 43), none⟩] [0, 5, 34])
    (.cond (.t 34)
     (.seq (.ops [
       ⟨(some 44), .mv (.t 0), none⟩,
       ⟨(some 45), .faddr 2 (.t 5), none⟩,
       ⟨(some 46), .load none (.t 45), none⟩,
       ⟨(some 47), .call 47 [.t 44, .t 46], none⟩,
       ⟨(some 4), .mv (.t 47), none⟩] [4])
     .ret)
     .skip)))))
  (.seq (.ops [
    ⟨(some 4), .mv (.c (.bool false)), none⟩] [4])
  .ret))
  .skip))
 (.seq (.seq (.ops [
   ⟨(some 48), .faddr 0 (.t 5), none⟩,
   ⟨(some 49), .load none (.t 48), none⟩] [0, 1, 5, 49])
 (.block 1
  (.seq (.seq (.ops [
    ⟨(some 51), .bin .eql (.t 49) (.c (.int .i64 2)), none⟩,
    ⟨(some 50), .mv (.t 51), none⟩] [0, 1, 5, 49, 50])
  (.cond (.t 50)
   .skip
   (.ops [
     ⟨(some 52), .bin .eql (.t 49) (.c (.int .i64 3)), none⟩,
     ⟨(some 50), .mv (.t 52), none⟩] [0, 1, 5, 49, 50])))
  (.cond (.t 50)
   (.seq (.ops [
     ⟨(some 53), .mv (.t 0), none⟩,
     ⟨(some 54), .faddr 1 (.t 5), none⟩,
     ⟨(some 55), .load none (.t 54), none⟩,
     ⟨(some 56), .call 49 [.t 53, .t 55], none⟩,
     ⟨(some 57), .mv (.t 56), none⟩,
     ⟨(some 58), .mv (.t 0), (some (57, true))⟩,
     ⟨(some 59), .faddr 2 (.t 5), (some (57, true))⟩,
     ⟨(some 60), .load none (.t 59), (some (57, true))⟩,
     ⟨(some 61), .call 49 [.t 58, .t 60], (some (57, true))⟩,
     ⟨(some 62), .pick (.t 57) (.t 61) (.c (.bool false)), none⟩,
     ⟨(some 63), .mv (.t 62), none⟩,
     ⟨(some 64), .mv (.t 0), (some (63, true))⟩,
     ⟨(some 65), .mv (.t 1), (some (63, true))⟩,
     ⟨(some 66), .call 47 [.t 64, .t 65], (some (63, true))⟩,
     ⟨(some 67), .pick (.t 63) (.t 66) (.c (.bool false)), none⟩,
     ⟨(some 4), .mv (.t 67), none⟩] [4])
   .ret)
   (.seq (.ops [
     ⟨(some 69), .bin .eql (.t 49) (.c (.int .i64 4)), none⟩,
     ⟨(some 68), .mv (.t 69), none⟩] [0, 1, 5, 68])
   (.cond (.t 68)
    (.seq (.ops [
      ⟨(some 70), .mv (.t 0), none⟩,
      ⟨(some 71), .faddr 1 (.t 5), none⟩,
      ⟨(some 72), .load none (.t 71), none⟩,
      ⟨(some 73), .call 49 [.t 70, .t 72], none⟩,
      ⟨(some 74), .mv (.t 73), none⟩,
      ⟨(some 75), .mv (.t 0), (some (74, true))⟩,
      ⟨(some 76), .mv (.t 1), (some (74, true))⟩,
      ⟨(some 77), .call 47 [.t 75, .t 76], (some (74, true))⟩,
      ⟨(some 78), .pick (.t 74) (.t 77) (.c (.bool false)), none⟩,
      ⟨(some 4), .mv (.t 78), none⟩] [4])
    .ret)
    .skip))))))
 (.seq (.ops [
   ⟨(some 4), .mv (.c (.bool false)), none⟩] [4])
 .ret)))))⟩

def h_know_knower_has : Hint := [(0, [0, 1], []), (1, [4], [(0, 0), (1, 0), (2, 0), (3, 0), (4, 0), (5, 0), (6, 0), (7, 0), (8, 0), (9, 0), (10, 0), (11, 0), (12, 0), (13, 0)])]
def ir_know_knower_has : AFunc := ⟨2, 18, [.tmp 4],
 (.seq (.ops [
   ⟨(some 4), .mv (.c (.bool false)), none⟩] [0, 1])
 (.seq (.dops [
   ⟨0, (some 5), .mv (.t 0), none, 0⟩,
   ⟨1, (some 6), .nilc (.t 5), none, 0⟩,
   ⟨2, (some 7), .faddr 2 (.t 6), none, 0⟩,
   ⟨3, (some 8), .load none (.t 7), none, 0⟩,
   ⟨4, (some 9), .mv (.t 0), none, 0⟩,
   ⟨5, (some 10), .nilc (.t 9), none, 0⟩,
   ⟨6, (some 11), .faddr 1 (.t 10), none, 0⟩,
   ⟨7, (some 12), .load none (.t 11), none, 0⟩,
   ⟨8, (some 13), .mv (.t 1), none, 0⟩,
   ⟨9, (some 14), .iaddrS 1 (.t 12) (.t 13), none, 0⟩,
   ⟨10, (some 15), .load none (.t 14), none, 0⟩,
   ⟨11, (some 16), .iaddrS 1 (.t 8) (.t 15), none, 0⟩,
   ⟨12, (some 17), .load none (.t 16), none, 0⟩,
   ⟨13, (some 4), .mv (.t 17), none, 0⟩] [4])
 .ret))⟩

def h_bandboxref15_like : Hint := [(0, [0], []), (1, [0, 3], []), (2, [0, 3, 4], []), (3, [0, 3, 4, 14], []), (4, [0, 3, 4], []), (5, [0, 3, 4], []), (6, [0, 3, 4, 5], []), (7, [0, 3, 4, 5, 31], []), (8, [0, 3, 4, 5], []), (9, [0, 3, 4, 5, 6, 7], [(0, 0), (1, 0), (2, 0), (3, 0), (8, 0), (9, 0), (10, 0), (4, 1), (5, 1), (6, 1), (7, 1), (11, 0)]), (10, [0, 3, 4, 5, 6, 7, 64], [(0, 0), (1, 0), (2, 0), (3, 0), (4, 0), (5, 0), (6, 0), (7, 0), (8, 0), (9, 0), (10, 0), (11, 0), (12, 0), (13, 0), (14, 0), (15, 0), (16, 0), (17, 0), (18, 0), (19, 0), (20, 0), (21, 0), (22, 0)]), (11, [0, 3, 4, 5, 92], [(0, 0), (1, 0), (2, 0), (3, 0), (4, 0), (5, 0), (6, 0), (7, 0), (8, 0), (9, 0), (10, 0), (11, 0), (12, 0), (13, 0), (14, 0), (15, 0), (16, 0), (17, 0), (18, 0), (19, 0), (20, 0), (21, 0), (22, 0), (23, 0), (24, 0), (25, 0), (26, 0), (27, 0)]), (12, [0, 3, 4, 5], []), (13, [2], [])]
def ir_bandboxref15_like : AFunc := ⟨1, 101, [.tmp 2],
 (.seq (.ops [
   ⟨(some 2), .mv (.c (.slice none 0 0)), none⟩] [0])
 (.seq (.ops [
   ⟨(some 8), .mv (.t 0), none⟩,
   ⟨(some 9), .lenS (.t 8), none⟩,
   ⟨(some 10), .mslice 8 ([.int .i64 0]) (.t 9) (.t 9), none⟩,
   ⟨(some 3), .mv (.t 10), none⟩] [0, 3])
 (.seq (.seq (.ops [
   ⟨(some 4), .mv (.c (.int .i64 0)), none⟩] [0, 3, 4])
 (.block 0
  (.loop
   (.seq (.seq (.ops [
     ⟨(some 11), .mv (.t 4), none⟩,
     ⟨(some 12), .mv (.t 0), none⟩,
     ⟨(some 13), .lenS (.t 12), none⟩,
     ⟨(some 14), .bin .lss (.t 11) (.t 13), none⟩] [0, 3, 4, 14])
   (.cond (.t 14)
    .skip
    (.exit 0)))
   (.seq (.block 1
    (.seq (.ops [
      ⟨(some 17), .mv (.t 3), none⟩,
      ⟨(some 18), .mv (.t 4), none⟩,
      ⟨(some 19), .mv (.t 4), none⟩,
      ⟨(some 20), .iaddrS 1 (.t 17) (.t 18), none⟩,
      ⟨none, .store 1 (.t 20) (.t 19), none⟩] [0, 3, 4])
    (.seq (.ops [
      ⟨(some 5), .mv (.c (.int .i64 0)), none⟩] [0, 3, 4, 5])
    (.block 2
     (.loop
      (.seq (.seq (.ops [
        ⟨(some 21), .mv (.t 5), none⟩,
        ⟨(some 22), .mv (.t 4), none⟩,
        ⟨(some 23), .bin .lss (.t 21) (.t 22), none⟩,
        ⟨(some 24), .mv (.t 23), none⟩,
        ⟨(some 25), .mv (.t 3), (some (24, true))⟩,
        ⟨(some 26), .mv (.t 4), (some (24, true))⟩,
        ⟨(some 27), .iaddrS 1 (.t 25) (.t 26), (some (24, true))⟩,
        ⟨(some 28), .load none (.t 27), (some (24, true))⟩,
        ⟨(some 29), .mv (.t 4), (some (24, true))⟩,
        ⟨(some 30), .bin .eql (.t 28) (.t 29), (some (24, true))⟩,
        ⟨(some 31), .pick (.t 24) (.t 30) (.c (.bool false)), none⟩] [0, 3, 4, 5, 31])
      (.cond (.t 31)
       .skip
       (.exit 2)))
      (.seq (.block 3
       (.seq (.dops [
         ⟨0, (some 34), .mv (.t 0), none, 0⟩,
         ⟨1, (some 35), .mv (.t 4), none, 0⟩,
         ⟨2, (some 36), .iaddrS 4 (.t 34) (.t 35), none, 0⟩,
         ⟨3, (some 37), .load (some 4) (.t 36), none, 0⟩,
         ⟨8, (some 6), .alloc ([.int .i64 0, .int .i64 0, .int .i64 0, .int .i64 0]), none, 0⟩,
         ⟨9, (some 7), .alloc ([.int .i64 0, .int .i64 0, .int .i64 0, .int .i64 0]), none, 0⟩,
         ⟨10, none, .store 4 (.t 6) (.t 37), none, 0⟩,
         ⟨4, (some 38), .mv (.t 0), none, 1⟩,
         ⟨5, (some 39), .mv (.t 5), none, 1⟩,
         ⟨6, (some 40), .iaddrS 4 (.t 38) (.t 39), none, 1⟩,
         ⟨7, (some 41), .load (some 4) (.t 40), none, 1⟩,
         ⟨11, none, .store 4 (.t 7) (.t 41), none, 0⟩] [0, 3, 4, 5, 6, 7])
       (.seq (.seq (.dops [
         ⟨0, (some 42), .faddr 0 (.t 6), none, 0⟩,
         ⟨1, (some 43), .load none (.t 42), none, 0⟩,
         ⟨2, (some 44), .faddr 0 (.t 7), none, 0⟩,
         ⟨3, (some 45), .load none (.t 44), none, 0⟩,
         ⟨4, (some 46), .bin .neq (.t 43) (.t 45), none, 0⟩,
         ⟨5, (some 47), .mv (.t 46), none, 0⟩,
         ⟨6, (some 48), .faddr 0 (.t 6), (some (47, false)), 0⟩,
         ⟨7, (some 49), .load none (.t 48), (some (47, false)), 0⟩,
         ⟨8, (some 50), .bin .eql (.t 49) (.c (.int .i64 1)), (some (47, false)), 0⟩,
         ⟨9, (some 51), .pick (.t 47) (.c (.bool true)) (.t 50), none, 0⟩,
         ⟨10, (some 52), .mv (.t 51), none, 0⟩,
         ⟨11, (some 53), .mv (.t 3), (some (52, false)), 0⟩,
         ⟨12, (some 54), .faddr 1 (.t 6), (some (52, false)), 0⟩,
         ⟨13, (some 55), .load none (.t 54), (some (52, false)), 0⟩,
         ⟨14, (some 56), .iaddrS 1 (.t 53) (.t 55), (some (52, false)), 0⟩,
         ⟨15, (some 57), .load none (.t 56), (some (52, false)), 0⟩,
         ⟨16, (some 58), .mv (.t 3), (some (52, false)), 0⟩,
         ⟨17, (some 59), .faddr 1 (.t 7), (some (52, false)), 0⟩,
         ⟨18, (some 60), .load none (.t 59), (some (52, false)), 0⟩,
         ⟨19, (some 61), .iaddrS 1 (.t 58) (.t 60), (some (52, false)), 0⟩,
         ⟨20, (some 62), .load none (.t 61), (some (52, false)), 0⟩,
         ⟨21, (some 63), .bin .neq (.t 57) (.t 62), (some (52, false)), 0⟩,
         ⟨22, (some 64), .pick (.t 52) (.c (.bool true)) (.t 63), none, 0⟩] [0, 3, 4, 5, 6, 7, 64])
       (.cond (.t 64)
        (.exit 3)
        .skip))
       (.seq (.dops [
         ⟨0, (some 65), .faddr 0 (.t 6), none, 0⟩,
         ⟨1, (some 66), .load none (.t 65), none, 0⟩,
         ⟨2, (some 67), .bin .eql (.t 66) (.c (.int .i64 4)), none, 0⟩,
         ⟨3, (some 68), .mv (.t 67), none, 0⟩,
         ⟨4, (some 69), .faddr 3 (.t 6), (some (68, true)), 0⟩,
         ⟨5, (some 70), .load none (.t 69), (some (68, true)), 0⟩,
         ⟨6, (some 71), .faddr 3 (.t 7), (some (68, true)), 0⟩,
         ⟨7, (some 72), .load none (.t 71), (some (68, true)), 0⟩,
         ⟨8, (some 73), .bin .eql (.t 70) (.t 72), (some (68, true)), 0⟩,
         ⟨9, (some 74), .pick (.t 68) (.t 73) (.c (.bool false)), none, 0⟩,
         ⟨10, (some 75), .mv (.t 74), none, 0⟩,
         ⟨11, (some 76), .faddr 0 (.t 6), (some (75, false)), 0⟩,
         ⟨12, (some 77), .load none (.t 76), (some (75, false)), 0⟩,
         ⟨13, (some 78), .bin .lss (.t 77) (.c (.int .i64 4)), (some (75, false)), 0⟩,
         ⟨14, (some 79), .mv (.t 78), (some (75, false)), 0⟩,
         ⟨15, (some 80), .mv (.t 3), (some (79, true)), 0⟩,
         ⟨16, (some 81), .faddr 2 (.t 6), (some (79, true)), 0⟩,
         ⟨17, (some 82), .load none (.t 81), (some (79, true)), 0⟩,
         ⟨18, (some 83), .iaddrS 1 (.t 80) (.t 82), (some (79, true)), 0⟩,
         ⟨19, (some 84), .load none (.t 83), (some (79, true)), 0⟩,
         ⟨20, (some 85), .mv (.t 3), (some (79, true)), 0⟩,
         ⟨21, (some 86), .faddr 2 (.t 7), (some (79, true)), 0⟩,
         ⟨22, (some 87), .load none (.t 86), (some (79, true)), 0⟩,
         ⟨23, (some 88), .iaddrS 1 (.t 85) (.t 87), (some (79, true)), 0⟩,
         ⟨24, (some 89), .load none (.t 88), (some (79, true)), 0⟩,
         ⟨25, (some 90), .bin .eql (.t 84) (.t 89), (some (79, true)), 0⟩,
         ⟨26, (some 91), .pick (.t 79) (.t 90) (.c (.bool false)), (some (75, false)), 0⟩,
         ⟨27, (some 92), .pick (.t 75) (.c (.bool true)) (.t 91), none, 0⟩] [0, 3, 4, 5, 92])
       (.cond (.t 92)
        (.ops [
          ⟨(some 93), .mv (.t 3), none⟩,
          ⟨(some 94), .mv (.t 4), none⟩,
          ⟨(some 95), .mv (.t 3), none⟩,
          ⟨(some 96), .mv (.t 5), none⟩,
          ⟨(some 97), .iaddrS 1 (.t 95) (.t 96), none⟩,
          ⟨(some 98), .load none (.t 97), none⟩,
          ⟨(some 99), .iaddrS 1 (.t 93) (.t 94), none⟩,
          ⟨none, .store 1 (.t 99) (.t 98), none⟩] [0, 3, 4, 5])
        .skip)))))
      (.ops [
        ⟨(some 32), .mv (.t 5), none⟩,
        ⟨(some 33), .bin .add (.t 32) (.c (.int .i64 1)), none⟩,
        ⟨(some 5), .mv (.t 33), none⟩] [0, 3, 4, 5]))))))))
   (.ops [
     ⟨(some 15), .mv (.t 4), none⟩,
     ⟨(some 16), .bin .add (.t 15) (.c (.int .i64 1)), none⟩,
     ⟨(some 4), .mv (.t 16), none⟩] [0, 3, 4]))))))
 (.seq (.ops [
   ⟨(some 100), .mv (.t 3), none⟩,
   ⟨(some 2), .mv (.t 100), none⟩] [2])
 .ret))))⟩

noncomputable def tabT : NT := (.node 23 (h_bandboxlaw18_things, ir_bandboxlaw18_things) (.node 18 (h_bandboxlaw18_has, ir_bandboxlaw18_has) (.node 16 (h_know_Good, ir_know_Good) (.node 15 (h_bandboxlaw18_awake, ir_bandboxlaw18_awake) (.node 5 (h_bandboxlaw18_KnowSays, ir_bandboxlaw18_KnowSays) .leaf .leaf) .leaf) (.node 17 (h_know_All, ir_know_All) .leaf .leaf)) (.node 21 (h_know_Same, ir_know_Same) (.node 20 (h_know_Can, ir_know_Can) (.node 19 (h_bandboxlaw18_same, ir_bandboxlaw18_same) .leaf .leaf) .leaf) (.node 22 (h_bandboxref15_Know, ir_bandboxref15_Know) .leaf .leaf))) (.node 46 (h_know_firsts, ir_know_firsts) (.node 44 (h_bandboxlaw18_box, ir_bandboxlaw18_box) (.node 25 (h_bandboxref15_GoodTable, ir_bandboxref15_GoodTable) (.node 24 (h_bandboxref15_SameThing, ir_bandboxref15_SameThing) .leaf .leaf) .leaf) (.node 45 (h_know_below, ir_know_below) .leaf .leaf)) (.node 49 (h_know_knower_has, ir_know_knower_has) (.node 48 (h_know_knower_step, ir_know_knower_step) (.node 47 (h_know_knower_learn, ir_know_knower_learn) .leaf .leaf) .leaf) (.node 50 (h_bandboxref15_like, ir_bandboxref15_like) .leaf .leaf))))
noncomputable def tab : Nat → Option (Hint × AFunc) := tabT.find
abbrev n_bandboxlaw18_KnowSays : Nat := 5
abbrev n_bandboxlaw18_awake : Nat := 15
abbrev n_know_Good : Nat := 16
abbrev n_know_All : Nat := 17
abbrev n_bandboxlaw18_has : Nat := 18
abbrev n_bandboxlaw18_same : Nat := 19
abbrev n_know_Can : Nat := 20
abbrev n_know_Same : Nat := 21
abbrev n_bandboxref15_Know : Nat := 22
abbrev n_bandboxlaw18_things : Nat := 23
abbrev n_bandboxref15_SameThing : Nat := 24
abbrev n_bandboxref15_GoodTable : Nat := 25
abbrev n_bandboxlaw18_box : Nat := 44
abbrev n_know_below : Nat := 45
abbrev n_know_firsts : Nat := 46
abbrev n_know_knower_learn : Nat := 47
abbrev n_know_knower_step : Nat := 48
abbrev n_know_knower_has : Nat := 49
abbrev n_bandboxref15_like : Nat := 50
end Go.Bb
