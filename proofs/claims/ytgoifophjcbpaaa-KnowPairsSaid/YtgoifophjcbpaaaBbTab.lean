/- The functions that this claim reaches, in short form; printed by a program of mine. -/
import Derived.Test.YtgoifophjcbpaaaBbG3
namespace Go.Bb
set_option maxRecDepth 20000
def h_bandboxlaw18_KnowSealed : Hint := [(0, [0, 1], []), (1, [0, 1, 10], []), (2, [4], []), (3, [0, 1, 23], []), (4, [4], []), (5, [0, 1, 5], []), (6, [1, 5, 6], []), (7, [1, 5, 6, 7], []), (8, [1, 5, 6, 7, 8], []), (9, [1, 5, 6, 7, 8, 40], []), (10, [1, 5, 6, 7, 8], []), (11, [1, 5, 6, 7, 8, 48], []), (12, [1, 5, 6, 7, 8], []), (13, [5, 6, 7], []), (14, [4], [])]
def ir_bandboxlaw18_KnowSealed : AFunc := ⟨2, 91, [.tmp 4],
 (.seq (.ops [
   ⟨(some 4), .mv (.c (.bool false)), none⟩] [0, 1])
 (.seq (.seq (.ops [
   ⟨(some 9), .call 15 [], none⟩,
   ⟨(some 10), .un .not (.t 9), none⟩] [0, 1, 10])
 (.cond (.t 10)
  (.seq (.ops [
    ⟨(some 4), .mv (.c (.bool false)), none⟩] [4])
  .ret)
  .skip))
 (.seq (.seq (.ops [
   ⟨(some 11), .mv (.t 0), none⟩,
   ⟨(some 12), .lenS (.t 11), none⟩,
   ⟨(some 13), .bin .gtr (.t 12) (.c (.int .i64 50)), none⟩,
   ⟨(some 14), .mv (.t 13), none⟩,
   ⟨(some 15), .mv (.t 1), (some (14, false))⟩,
   ⟨(some 16), .lenS (.t 15), (some (14, false))⟩,
   ⟨(some 17), .bin .gtr (.t 16) (.c (.int .i64 50)), (some (14, false))⟩,
   ⟨(some 18), .pick (.t 14) (.c (.bool true)) (.t 17), none⟩,
   ⟨(some 19), .mv (.t 18), none⟩,
   ⟨(some 20), .mv (.t 0), (some (19, false))⟩,
   ⟨(some 21), .call 16 [.t 20], (some (19, false))⟩,
   ⟨(some 22), .un .not (.t 21), (some (19, false))⟩,
   ⟨(some 23), .pick (.t 19) (.c (.bool true)) (.t 22), none⟩] [0, 1, 23])
 (.cond (.t 23)
  (.seq (.ops [
    ⟨(some 4), .mv (.c (.bool true)), none⟩] [4])
  .ret)
  .skip))
 (.seq (.ops [
   ⟨(some 24), .mv (.t 0), none⟩,
   ⟨(some 25), .lenS (.t 24), none⟩,
   ⟨(some 5), .mv (.t 25), none⟩] [0, 1, 5])
 (.seq (.ops [
   ⟨(some 26), .bslice 0 4 ([.int .i64 0, .int .i64 0, .int .i64 0, .int .i64 0]) [], none⟩,
   ⟨(some 27), .mv (.t 0), none⟩,
   ⟨(some 28), .append 4 32 (.t 26) (.t 27), none⟩,
   ⟨(some 29), .build ([.int .i64 0, .int .i64 0, .int .i64 0, .int .i64 0]) [(0, 1, .c (.int .i64 1))], none⟩,
   ⟨(some 30), .build ([.int .i64 0, .int .i64 0, .int .i64 0, .int .i64 0]) [(0, 1, .c (.int .i64 1))], none⟩,
   ⟨(some 31), .mv (.t 5), none⟩,
   ⟨(some 32), .mv (.t 5), none⟩,
   ⟨(some 33), .bin .add (.t 32) (.c (.int .i64 1)), none⟩,
   ⟨(some 34), .build ([.int .i64 0, .int .i64 0, .int .i64 0, .int .i64 0]) [(0, 1, .c (.int .i64 3)), (1, 1, .t 31), (2, 1, .t 33)], none⟩,
   ⟨(some 35), .bslice 3 4 ([.int .i64 0, .int .i64 0, .int .i64 0, .int .i64 0]) [(0, 4, .t 29), (4, 4, .t 30), (8, 4, .t 34)], none⟩,
   ⟨(some 36), .append 4 32 (.t 28) (.t 35), none⟩,
   ⟨(some 6), .mv (.t 36), none⟩] [1, 5, 6])
 (.seq (.ops [
   ⟨(some 7), .mv (.c (.slice none 0 0)), none⟩] [1, 5, 6, 7])
 (.seq (.seq (.ops [
   ⟨(some 8), .mv (.c (.int .i64 0)), none⟩] [1, 5, 6, 7, 8])
 (.block 0
  (.loop
   (.seq (.seq (.ops [
     ⟨(some 37), .mv (.t 8), none⟩,
     ⟨(some 38), .mv (.t 1), none⟩,
     ⟨(some 39), .lenS (.t 38), none⟩,
     ⟨(some 40), .bin .lss (.t 37) (.t 39), none⟩] [1, 5, 6, 7, 8, 40])
   (.cond (.t 40)
    .skip
    (.exit 0)))
   (.seq (.block 1
    (.seq (.ops [
      ⟨(some 43), .mv (.t 1), none⟩,
      ⟨(some 44), .mv (.t 8), none⟩,
      ⟨(some 45), .iaddrS 1 (.t 43) (.t 44), none⟩,
      ⟨(some 46), .load none (.t 45), none⟩,
      ⟨(some 47), .mv (.t 5), none⟩,
      ⟨(some 48), .bin .lss (.t 46) (.t 47), none⟩] [1, 5, 6, 7, 8, 48])
    (.cond (.t 48)
     (.ops [
       ⟨(some 49), .mv (.t 7), none⟩,
       ⟨(some 50), .mv (.t 1), none⟩,
       ⟨(some 51), .mv (.t 8), none⟩,
       ⟨(some 52), .iaddrS 1 (.t 50) (.t 51), none⟩,
       ⟨(some 53), .load none (.t 52), none⟩,
       ⟨(some 54), .bslice 1 1 ([.int .i64 0]) [(0, 1, .t 53)], none⟩,
       ⟨(some 55), .append 1 8 (.t 49) (.t 54), none⟩,
       ⟨(some 7), .mv (.t 55), none⟩] [1, 5, 6, 7, 8])
     .skip)))
   (.ops [
     ⟨(some 41), .mv (.t 8), none⟩,
     ⟨(some 42), .bin .add (.t 41) (.c (.int .i64 1)), none⟩,
     ⟨(some 8), .mv (.t 42), none⟩] [1, 5, 6, 7, 8]))))))
 (.seq (.ops [
   ⟨(some 56), .mv (.t 7), none⟩,
   ⟨(some 57), .mv (.t 5), none⟩,
   ⟨(some 58), .bin .add (.t 57) (.c (.int .i64 2)), none⟩,
   ⟨(some 59), .bslice 1 1 ([.int .i64 0]) [(0, 1, .t 58)], none⟩,
   ⟨(some 60), .append 1 8 (.t 56) (.t 59), none⟩,
   ⟨(some 7), .mv (.t 60), none⟩] [5, 6, 7])
 (.seq (.ops [
   ⟨(some 61), .mv (.t 6), none⟩,
   ⟨(some 62), .mv (.t 5), none⟩,
   ⟨(some 63), .bin .add (.t 62) (.c (.int .i64 2)), none⟩,
   ⟨(some 64), .mv (.t 7), none⟩,
   ⟨(some 65), .call 20 [.t 61, .t 63, .t 64], none⟩,
   ⟨(some 66), .mv (.t 65), none⟩,
   ⟨(some 67), .mv (.t 6), (some (66, true))⟩,
   ⟨(some 68), .mv (.t 5), (some (66, true))⟩,
   ⟨(some 69), .bin .add (.t 68) (.c (.int .i64 1)), (some (66, true))⟩,
   ⟨(some 70), .mv (.t 7), (some (66, true))⟩,
   ⟨(some 71), .call 20 [.t 67, .t 69, .t 70], (some (66, true))⟩,
   ⟨(some 72), .un .not (.t 71), (some (66, true))⟩,
   ⟨(some 73), .pick (.t 66) (.t 72) (.c (.bool false)), none⟩,
   ⟨(some 74), .mv (.t 73), none⟩,
   ⟨(some 75), .mv (.t 6), (some (74, true))⟩,
   ⟨(some 76), .mv (.t 5), (some (74, true))⟩,
   ⟨(some 77), .mv (.t 7), (some (74, true))⟩,
   ⟨(some 78), .call 20 [.t 75, .t 76, .t 77], (some (74, true))⟩,
   ⟨(some 79), .un .not (.t 78), (some (74, true))⟩,
   ⟨(some 80), .pick (.t 74) (.t 79) (.c (.bool false)), none⟩,
   ⟨(some 81), .mv (.t 80), none⟩,
   ⟨(some 82), .mv (.t 6), (some (81, true))⟩,
   ⟨(some 83), .mv (.t 5), (some (81, true))⟩,
   ⟨(some 84), .bin .add (.t 83) (.c (.int .i64 1)), (some (81, true))⟩,
   ⟨(some 85), .mv (.t 7), (some (81, true))⟩,
   ⟨(some 86), .mv (.t 5), (some (81, true))⟩,
   ⟨(some 87), .bslice 1 1 ([.int .i64 0]) [(0, 1, .t 86)], (some (81, true))⟩,
   ⟨(some 88), .append 1 8 (.t 85) (.t 87), (some (81, true))⟩,
   ⟨(some 89), .call 20 [.t 82, .t 84, .t 88], (some (81, true))⟩,
   ⟨(some 90), .pick (.t 81) (.t 89) (.c (.bool false)), none⟩,
   ⟨(some 4), .mv (.t 90), none⟩] [4])
 .ret)))))))))⟩

def h_bandboxlaw18_KnowPairs : Hint := [(0, [0, 1, 2, 3], []), (1, [0, 1, 2, 3, 13], []), (2, [8], []), (3, [0, 1, 2, 3, 46], []), (4, [8], []), (5, [0, 1, 2, 3, 9], []), (6, [1, 2, 3, 9, 10], []), (7, [1, 2, 3, 9, 10, 89], []), (8, [8], []), (9, [1, 2, 9, 10, 11], []), (10, [8], [])]
def ir_bandboxlaw18_KnowPairs_90 : ACode := (.seq (.ops [
   ⟨(some 90), .bslice 0 1 ([.int .i64 0]) [], none⟩,
   ⟨(some 91), .mv (.t 3), none⟩,
   ⟨(some 92), .append 1 8 (.t 90) (.t 91), none⟩,
   ⟨(some 93), .mv (.t 10), none⟩,
   ⟨(some 94), .bslice 1 1 ([.int .i64 0]) [(0, 1, .t 93)], none⟩,
   ⟨(some 95), .append 1 8 (.t 92) (.t 94), none⟩,
   ⟨(some 11), .mv (.t 95), none⟩] [1, 2, 9, 10, 11])
 (.seq (.ops [
   ⟨(some 96), .mv (.t 9), none⟩,
   ⟨(some 97), .mv (.t 1), none⟩,
   ⟨(some 98), .mv (.t 11), none⟩,
   ⟨(some 99), .call 20 [.t 96, .t 97, .t 98], none⟩,
   ⟨(some 100), .mv (.t 99), none⟩,
   ⟨(some 101), .mv (.t 9), (some (100, true))⟩,
   ⟨(some 102), .mv (.t 2), (some (100, true))⟩,
   ⟨(some 103), .mv (.t 11), (some (100, true))⟩,
   ⟨(some 104), .call 20 [.t 101, .t 102, .t 103], (some (100, true))⟩,
   ⟨(some 105), .pick (.t 100) (.t 104) (.c (.bool false)), none⟩,
   ⟨(some 106), .mv (.t 105), none⟩,
   ⟨(some 107), .mv (.t 9), (some (106, true))⟩,
   ⟨(some 108), .mv (.t 10), (some (106, true))⟩,
   ⟨(some 109), .mv (.t 10), (some (106, true))⟩,
   ⟨(some 110), .call 21 [.t 107, .t 108, .t 109], (some (106, true))⟩,
   ⟨(some 111), .pick (.t 106) (.t 110) (.c (.bool false)), none⟩,
   ⟨(some 8), .mv (.t 111), none⟩] [8])
 .ret))
def ir_bandboxlaw18_KnowPairs : AFunc := ⟨4, 112, [.tmp 8],
 (.seq (.ops [
   ⟨(some 8), .mv (.c (.bool false)), none⟩] [0, 1, 2, 3])
 (.seq (.seq (.ops [
   ⟨(some 12), .call 15 [], none⟩,
   ⟨(some 13), .un .not (.t 12), none⟩] [0, 1, 2, 3, 13])
 (.cond (.t 13)
 (.seq (.ops [
    ⟨(some 8), .mv (.c (.bool false)), none⟩] [8])
 .ret)
 .skip))
 (.seq (.seq (.ops [
   ⟨(some 14), .mv (.t 0), none⟩,
   ⟨(some 15), .lenS (.t 14), none⟩,
   ⟨(some 16), .bin .gtr (.t 15) (.c (.int .i64 50)), none⟩,
   ⟨(some 17), .mv (.t 16), none⟩,
   ⟨(some 18), .mv (.t 3), (some (17, false))⟩,
   ⟨(some 19), .lenS (.t 18), (some (17, false))⟩,
   ⟨(some 20), .bin .gtr (.t 19) (.c (.int .i64 50)), (some (17, false))⟩,
   ⟨(some 21), .pick (.t 17) (.c (.bool true)) (.t 20), none⟩,
   ⟨(some 22), .mv (.t 21), none⟩,
   ⟨(some 23), .mv (.t 0), (some (22, false))⟩,
   ⟨(some 24), .call 16 [.t 23], (some (22, false))⟩,
   ⟨(some 25), .un .not (.t 24), (some (22, false))⟩,
   ⟨(some 26), .pick (.t 22) (.c (.bool true)) (.t 25), none⟩,
   ⟨(some 27), .mv (.t 26), none⟩,
   ⟨(some 28), .mv (.t 1), (some (27, false))⟩,
   ⟨(some 29), .bin .lss (.t 28) (.c (.int .i64 0)), (some (27, false))⟩,
   ⟨(some 30), .pick (.t 27) (.c (.bool true)) (.t 29), none⟩,
   ⟨(some 31), .mv (.t 30), none⟩,
   ⟨(some 32), .mv (.t 2), (some (31, false))⟩,
   ⟨(some 33), .bin .lss (.t 32) (.c (.int .i64 0)), (some (31, false))⟩,
   ⟨(some 34), .pick (.t 31) (.c (.bool true)) (.t 33), none⟩,
   ⟨(some 35), .mv (.t 34), none⟩,
   ⟨(some 36), .mv (.t 1), (some (35, false))⟩,
   ⟨(some 37), .mv (.t 0), (some (35, false))⟩,
   ⟨(some 38), .lenS (.t 37), (some (35, false))⟩,
   ⟨(some 39), .bin .geq (.t 36) (.t 38), (some (35, false))⟩,
   ⟨(some 40), .pick (.t 35) (.c (.bool true)) (.t 39), none⟩,
   ⟨(some 41), .mv (.t 40), none⟩,
   ⟨(some 42), .mv (.t 2), (some (41, false))⟩,
   ⟨(some 43), .mv (.t 0), (some (41, false))⟩,
   ⟨(some 44), .lenS (.t 43), (some (41, false))⟩,
   ⟨(some 45), .bin .geq (.t 42) (.t 44), (some (41, false))⟩,
   ⟨(some 46), .pick (.t 41) (.c (.bool true)) (.t 45), none⟩] [0, 1, 2, 3, 46])
 (.cond (.t 46)
 (.seq (.ops [
    ⟨(some 8), .mv (.c (.bool true)), none⟩] [8])
 .ret)
 .skip))
 (.seq (.ops [
   ⟨(some 47), .bslice 0 4 ([.int .i64 0, .int .i64 0, .int .i64 0, .int .i64 0]) [], none⟩,
   ⟨(some 48), .mv (.t 0), none⟩,
   ⟨(some 49), .append 4 32 (.t 47) (.t 48), none⟩,
   ⟨(some 50), .mv (.t 1), none⟩,
   ⟨(some 51), .mv (.t 2), none⟩,
   ⟨(some 52), .build ([.int .i64 0, .int .i64 0, .int .i64 0, .int .i64 0]) [(0, 1, .c (.int .i64 2)), (1, 1, .t 50), (2, 1, .t 51)], none⟩,
   ⟨(some 53), .mv (.t 1), none⟩,
   ⟨(some 54), .build ([.int .i64 0, .int .i64 0, .int .i64 0, .int .i64 0]) [(0, 1, .c (.int .i64 4)), (1, 1, .t 53), (3, 1, .c (.int .i64 77))], none⟩,
   ⟨(some 55), .bslice 2 4 ([.int .i64 0, .int .i64 0, .int .i64 0, .int .i64 0]) [(0, 4, .t 52), (4, 4, .t 54)], none⟩,
   ⟨(some 56), .append 4 32 (.t 49) (.t 55), none⟩,
   ⟨(some 9), .mv (.t 56), none⟩] [0, 1, 2, 3, 9])
 (.seq (.ops [
   ⟨(some 57), .mv (.t 0), none⟩,
   ⟨(some 58), .lenS (.t 57), none⟩,
   ⟨(some 10), .mv (.t 58), none⟩] [1, 2, 3, 9, 10])
 (.seq (.seq (.ops [
   ⟨(some 59), .mv (.t 9), none⟩,
   ⟨(some 60), .mv (.t 1), none⟩,
   ⟨(some 61), .mv (.t 3), none⟩,
   ⟨(some 62), .call 20 [.t 59, .t 60, .t 61], none⟩,
   ⟨(some 63), .mv (.t 62), none⟩,
   ⟨(some 64), .mv (.t 9), (some (63, true))⟩,
   ⟨(some 65), .mv (.t 2), (some (63, true))⟩,
   ⟨(some 66), .mv (.t 3), (some (63, true))⟩,
   ⟨(some 67), .call 20 [.t 64, .t 65, .t 66], (some (63, true))⟩,
   ⟨(some 68), .pick (.t 63) (.t 67) (.c (.bool false)), none⟩,
   ⟨(some 69), .mv (.t 68), none⟩,
   ⟨(some 70), .mv (.t 9), (some (69, true))⟩,
   ⟨(some 71), .mv (.t 10), (some (69, true))⟩,
   ⟨(some 72), .mv (.t 3), (some (69, true))⟩,
   ⟨(some 73), .call 20 [.t 70, .t 71, .t 72], (some (69, true))⟩,
   ⟨(some 74), .un .not (.t 73), (some (69, true))⟩,
   ⟨(some 75), .pick (.t 69) (.t 74) (.c (.bool false)), none⟩,
   ⟨(some 76), .mv (.t 75), none⟩,
   ⟨(some 77), .mv (.t 9), (some (76, false))⟩,
   ⟨(some 78), .mv (.t 1), (some (76, false))⟩,
   ⟨(some 79), .mv (.t 3), (some (76, false))⟩,
   ⟨(some 80), .call 20 [.t 77, .t 78, .t 79], (some (76, false))⟩,
   ⟨(some 81), .mv (.t 80), (some (76, false))⟩,
   ⟨(some 82), .mv (.t 9), (some (81, true))⟩,
   ⟨(some 83), .mv (.t 10), (some (81, true))⟩,
   ⟨(some 84), .bin .add (.t 83) (.c (.int .i64 1)), (some (81, true))⟩,
   ⟨(some 85), .mv (.t 3), (some (81, true))⟩,
   ⟨(some 86), .call 20 [.t 82, .t 84, .t 85], (some (81, true))⟩,
   ⟨(some 87), .un .not (.t 86), (some (81, true))⟩,
   ⟨(some 88), .pick (.t 81) (.t 87) (.c (.bool false)), (some (76, false))⟩,
   ⟨(some 89), .pick (.t 76) (.c (.bool true)) (.t 88), none⟩] [1, 2, 3, 9, 10, 89])
 (.cond (.t 89)
 (.seq (.ops [
    ⟨(some 8), .mv (.c (.bool false)), none⟩] [8])
 .ret)
 .skip))
 ir_bandboxlaw18_KnowPairs_90))))))⟩

def h_bandboxlaw18_awake : Hint := [(0, [], []), (1, [0], [])]
def ir_bandboxlaw18_awake : AFunc := ⟨0, 22, [.tmp 0],
 (.seq (.ops [
   ⟨(some 0), .mv (.c (.bool false)), none⟩] [])
 (.seq (.ops [
   ⟨(some 1), .call 44 [], none⟩,
   ⟨(some 2), .bslice 2 1 ([.int .i64 0]) [(0, 1, .c (.int .i64 0)), (1, 1, .c (.int .i64 2))], none⟩,
   ⟨(some 3), .call 17 [.t 1, .t 2], none⟩,
   ⟨(some 4), .bslice 3 1 ([.int .i64 0]) [(0, 1, .c (.int .i64 0)), (1, 1, .c (.int .i64 1)), (2, 1, .c (.int .i64 2))], none⟩,
   ⟨(some 5), .call 19 [.t 3, .t 4], none⟩,
   ⟨(some 6), .mv (.t 5), none⟩,
   ⟨(some 7), .call 44 [], (some (6, true))⟩,
   ⟨(some 8), .bslice 1 1 ([.int .i64 0]) [(0, 1, .c (.int .i64 2))], (some (6, true))⟩,
   ⟨(some 9), .call 17 [.t 7, .t 8], (some (6, true))⟩,
   ⟨(some 10), .bslice 1 1 ([.int .i64 0]) [(0, 1, .c (.int .i64 2))], (some (6, true))⟩,
   ⟨(some 11), .call 19 [.t 9, .t 10], (some (6, true))⟩,
   ⟨(some 12), .pick (.t 6) (.t 11) (.c (.bool false)), none⟩,
   ⟨(some 13), .mv (.t 12), none⟩,
   ⟨(some 14), .call 44 [], (some (13, true))⟩,
   ⟨(some 15), .bslice 2 1 ([.int .i64 0]) [(0, 1, .c (.int .i64 0)), (1, 1, .c (.int .i64 1))], (some (13, true))⟩,
   ⟨(some 16), .call 20 [.t 14, .c (.int .i64 2), .t 15], (some (13, true))⟩,
   ⟨(some 17), .pick (.t 13) (.t 16) (.c (.bool false)), none⟩,
   ⟨(some 18), .mv (.t 17), none⟩,
   ⟨(some 19), .call 44 [], (some (18, true))⟩,
   ⟨(some 20), .call 16 [.t 19], (some (18, true))⟩,
   ⟨(some 21), .pick (.t 18) (.t 20) (.c (.bool false)), none⟩,
   ⟨(some 0), .mv (.t 21), none⟩] [0])
 .ret))⟩

def h_know_Good : Hint := [(0, [0], []), (1, [0, 6, 7, 8], []), (2, [0, 6, 7, 8, 9], []), (3, [0, 3, 4, 6, 7, 8], []), (4, [0, 3, 4, 5, 6, 7, 8], []), (5, [0, 3, 4, 5, 6, 7, 8, 14], []), (6, [0, 5, 6, 7, 8], []), (7, [0, 3, 4, 5, 6, 7, 8, 14, 15], []), (8, [0, 3, 4, 6, 7, 8, 14, 17], []), (9, [0, 3, 4, 6, 7, 8, 14, 17], []), (10, [0, 5, 6, 7, 8], []), (11, [0, 3, 4, 6, 7, 8, 30], []), (12, [0, 5, 6, 7, 8], []), (13, [0, 6, 7, 8, 37], []), (14, [2], []), (15, [0, 6, 7, 8], []), (16, [2], [])]
def ir_know_Good : AFunc := ⟨1, 42, [.tmp 2],
 (.seq (.ops [
   ⟨(some 2), .mv (.c (.bool false)), none⟩] [0])
 (.seq (.seq (.ops [
   ⟨(some 6), .mv (.t 0), none⟩,
   ⟨(some 7), .lenS (.t 6), none⟩,
   ⟨(some 8), .mv (.c (.int .i64 0)), none⟩] [0, 6, 7, 8])
 (.block 0
  (.loop
   (.seq (.ops [
     ⟨(some 9), .bin .lss (.t 8) (.t 7), none⟩] [0, 6, 7, 8, 9])
   (.seq (.cond (.t 9)
    .skip
    (.exit 0))
   (.seq (.block 1
    (.seq (.ops [
      ⟨(some 10), .mv (.t 8), none⟩,
      ⟨(some 11), .iaddrS 4 (.t 6) (.t 8), none⟩,
      ⟨(some 12), .load (some 4) (.t 11), none⟩,
      ⟨(some 4), .alloc ([.int .i64 0, .int .i64 0, .int .i64 0, .int .i64 0]), none⟩,
      ⟨(some 3), .mv (.t 10), none⟩,
      ⟨none, .store 4 (.t 4) (.t 12), none⟩] [0, 3, 4, 6, 7, 8])
    (.seq (.ops [
      ⟨(some 5), .mv (.c (.bool true)), none⟩] [0, 3, 4, 5, 6, 7, 8])
    (.seq (.seq (.ops [
      ⟨(some 13), .faddr 0 (.t 4), none⟩,
      ⟨(some 14), .load none (.t 13), none⟩] [0, 3, 4, 5, 6, 7, 8, 14])
    (.block 2
     (.seq (.ops [
       ⟨(some 16), .bin .eql (.t 14) (.c (.int .i64 1)), none⟩,
       ⟨(some 15), .mv (.t 16), none⟩] [0, 3, 4, 5, 6, 7, 8, 14, 15])
     (.cond (.t 15)
      .skip
      (.seq (.seq (.ops [
        ⟨(some 18), .bin .eql (.t 14) (.c (.int .i64 2)), none⟩,
        ⟨(some 17), .mv (.t 18), none⟩] [0, 3, 4, 6, 7, 8, 14, 17])
      (.cond (.t 17)
       .skip
       (.ops [
         ⟨(some 19), .bin .eql (.t 14) (.c (.int .i64 3)), none⟩,
         ⟨(some 17), .mv (.t 19), none⟩] [0, 3, 4, 6, 7, 8, 14, 17])))
      (.cond (.t 17)
       (.ops [
         ⟨(some 20), .faddr 1 (.t 4), none⟩,
         ⟨(some 21), .load none (.t 20), none⟩,
         ⟨(some 22), .mv (.t 3), none⟩,
         ⟨(some 23), .call 45 [.t 21, .t 22], none⟩,
         ⟨(some 24), .mv (.t 23), none⟩,
         ⟨(some 25), .faddr 2 (.t 4), (some (24, true))⟩,
         ⟨(some 26), .load none (.t 25), (some (24, true))⟩,
         ⟨(some 27), .mv (.t 3), (some (24, true))⟩,
         ⟨(some 28), .call 45 [.t 26, .t 27], (some (24, true))⟩,
         ⟨(some 29), .pick (.t 24) (.t 28) (.c (.bool false)), none⟩,
         ⟨(some 5), .mv (.t 29), none⟩] [0, 5, 6, 7, 8])
       (.seq (.ops [
         ⟨(some 31), .bin .eql (.t 14) (.c (.int .i64 4)), none⟩,
         ⟨(some 30), .mv (.t 31), none⟩] [0, 3, 4, 6, 7, 8, 30])
       (.cond (.t 30)
        (.ops [
          ⟨(some 32), .faddr 1 (.t 4), none⟩,
          ⟨(some 33), .load none (.t 32), none⟩,
          ⟨(some 34), .mv (.t 3), none⟩,
          ⟨(some 35), .call 45 [.t 33, .t 34], none⟩,
          ⟨(some 5), .mv (.t 35), none⟩] [0, 5, 6, 7, 8])
        (.ops [
          ⟨(some 5), .mv (.c (.bool false)), none⟩] [0, 5, 6, 7, 8])))))))))
    (.seq (.ops [
      ⟨(some 36), .mv (.t 5), none⟩,
      ⟨(some 37), .un .not (.t 36), none⟩] [0, 6, 7, 8, 37])
    (.cond (.t 37)
     (.seq (.ops [
       ⟨(some 2), .mv (.c (.bool false)), none⟩] [2])
     .ret)
     .skip))))))
   (.ops [
     ⟨(some 38), .bin .add (.t 8) (.c (.int .i64 1)), none⟩,
     ⟨(some 8), .mv (.t 38), none⟩] [0, 6, 7, 8])))))))
 (.seq (.ops [
   ⟨(some 39), .mv (.t 0), none⟩,
   ⟨(some 40), .lenS (.t 39), none⟩,
   ⟨(some 41), .bin .leq (.t 40) (.c (.int .i64 500)), none⟩,
   ⟨(some 2), .mv (.t 41), none⟩] [2])
 .ret)))⟩

def h_know_All : Hint := [(0, [0, 1], []), (1, [0, 1, 13], []), (2, [4], []), (3, [0, 1, 5], [(1, 0), (2, 0), (0, 1), (3, 1), (4, 1), (5, 0), (6, 0), (7, 0), (8, 0)]), (4, [0, 5, 22, 23, 24], []), (5, [0, 5, 22, 23, 24, 25], []), (6, [0, 5, 7, 22, 23, 24], []), (7, [0, 5, 7, 22, 23, 24, 31], []), (8, [0, 5, 22, 23, 24], []), (9, [0, 5, 22, 23, 24], []), (10, [0, 5, 37, 38], []), (11, [0, 5, 37, 38, 39], []), (12, [0, 5, 8, 37, 38], []), (13, [0, 5, 37, 38, 43], []), (14, [0, 5, 37, 38], []), (15, [0, 5, 9], []), (16, [5, 9, 46, 47], []), (17, [5, 9, 46, 47, 48], []), (18, [5, 9, 10, 46, 47], []), (19, [5, 9, 10, 46, 47, 52], []), (20, [5, 9, 46, 47], []), (21, [5, 9, 46, 47], []), (22, [4], [])]
def ir_know_All : AFunc := ⟨2, 59, [.tmp 4],
 (.seq (.ops [
   ⟨(some 4), .mv (.c (.slice none 0 0)), none⟩] [0, 1])
 (.scope
  (.seq (.seq (.ops [
    ⟨(some 11), .mv (.t 0), none⟩,
    ⟨(some 12), .call 16 [.t 11], none⟩,
    ⟨(some 13), .un .not (.t 12), none⟩] [0, 1, 13])
  (.cond (.t 13)
   (.seq (.ops [
     ⟨(some 4), .mv (.c (.slice none 0 0)), none⟩] [4])
   .ret)
   .skip))
  (.seq (.dops [
    ⟨1, (some 15), .mv (.t 0), none, 0⟩,
    ⟨2, (some 16), .call 46 [.t 15], none, 0⟩,
    ⟨0, (some 14), .mv (.t 0), none, 1⟩,
    ⟨3, (some 17), .mv (.t 0), none, 1⟩,
    ⟨4, (some 18), .lenS (.t 17), none, 1⟩,
    ⟨5, (some 19), .mslice 1 ([.bool false]) (.t 18) (.t 18), none, 0⟩,
    ⟨6, (some 20), .build ([.slice none 0 0, .slice none 0 0, .slice none 0 0]) [(0, 1, .t 14), (1, 1, .t 16), (2, 1, .t 19)], none, 0⟩,
    ⟨7, (some 21), .box (.t 20), none, 0⟩,
    ⟨8, (some 5), .mv (.t 21), none, 0⟩] [0, 1, 5])
  (.seq (.seq (.ops [
    ⟨(some 22), .mv (.t 1), none⟩,
    ⟨(some 23), .lenS (.t 22), none⟩,
    ⟨(some 24), .mv (.c (.int .i64 0)), none⟩] [0, 5, 22, 23, 24])
  (.block 0
   (.loop
    (.seq (.ops [
      ⟨(some 25), .bin .lss (.t 24) (.t 23), none⟩] [0, 5, 22, 23, 24, 25])
    (.seq (.cond (.t 25)
     .skip
     (.exit 0))
    (.seq (.block 1
     (.seq (.ops [
       ⟨(some 26), .iaddrS 1 (.t 22) (.t 24), none⟩,
       ⟨(some 27), .load none (.t 26), none⟩,
       ⟨(some 7), .mv (.t 27), none⟩] [0, 5, 7, 22, 23, 24])
     (.seq (.ops [
       ⟨(some 28), .mv (.t 7), none⟩,
       ⟨(some 29), .mv (.t 0), none⟩,
       ⟨(some 30), .lenS (.t 29), none⟩,
       ⟨(some 31), .call 45 [.t 28, .t 30], none⟩] [0, 5, 7, 22, 23, 24, 31])
     (.cond (.t 31)
      (.ops [
        ⟨(some 32), .mv (.t 5), none⟩,
        ⟨(some 33), .mv (.t 7), none⟩,
        ⟨(some 34), .call 47 [.t 32, .t 33], none⟩] [0, 5, 22, 23, 24])
      .skip))))
    (.ops [
      ⟨(some 35), .bin .add (.t 24) (.c (.int .i64 1)), none⟩,
      ⟨(some 24), .mv (.t 35), none⟩] [0, 5, 22, 23, 24])))))))
  (.seq .skip
  (.seq (.block 2
   (.loop
    (.block 3
     (.seq (.seq (.ops [
       ⟨(some 36), .mv (.t 0), none⟩,
       ⟨(some 37), .lenS (.t 36), none⟩,
       ⟨(some 38), .mv (.c (.int .i64 0)), none⟩] [0, 5, 37, 38])
     (.block 4
      (.loop
       (.seq (.ops [
         ⟨(some 39), .bin .lss (.t 38) (.t 37), none⟩] [0, 5, 37, 38, 39])
       (.seq (.cond (.t 39)
        .skip
        (.exit 4))
       (.seq (.block 5
        (.seq (.ops [
          ⟨(some 40), .mv (.t 38), none⟩,
          ⟨(some 8), .mv (.t 40), none⟩] [0, 5, 8, 37, 38])
        (.seq (.ops [
          ⟨(some 41), .mv (.t 5), none⟩,
          ⟨(some 42), .mv (.t 8), none⟩,
          ⟨(some 43), .call 48 [.t 41, .t 42], none⟩] [0, 5, 37, 38, 43])
        (.cond (.t 43)
         (.exit 3)
         .skip))))
       (.ops [
         ⟨(some 44), .bin .add (.t 38) (.c (.int .i64 1)), none⟩,
         ⟨(some 38), .mv (.t 44), none⟩] [0, 5, 37, 38])))))))
     (.exit 2)))))
  (.seq (.ops [
    ⟨(some 9), .mv (.c (.slice none 0 0)), none⟩] [0, 5, 9])
  (.seq (.seq (.ops [
    ⟨(some 45), .mv (.t 0), none⟩,
    ⟨(some 46), .lenS (.t 45), none⟩,
    ⟨(some 47), .mv (.c (.int .i64 0)), none⟩] [5, 9, 46, 47])
  (.block 6
   (.loop
    (.seq (.ops [
      ⟨(some 48), .bin .lss (.t 47) (.t 46), none⟩] [5, 9, 46, 47, 48])
    (.seq (.cond (.t 48)
     .skip
     (.exit 6))
    (.seq (.block 7
     (.seq (.ops [
       ⟨(some 49), .mv (.t 47), none⟩,
       ⟨(some 10), .mv (.t 49), none⟩] [5, 9, 10, 46, 47])
     (.seq (.ops [
       ⟨(some 50), .mv (.t 5), none⟩,
       ⟨(some 51), .mv (.t 10), none⟩,
       ⟨(some 52), .call 49 [.t 50, .t 51], none⟩] [5, 9, 10, 46, 47, 52])
     (.cond (.t 52)
      (.ops [
        ⟨(some 53), .mv (.t 9), none⟩,
        ⟨(some 54), .mv (.t 10), none⟩,
        ⟨(some 55), .bslice 1 1 ([.int .i64 0]) [(0, 1, .t 54)], none⟩,
        ⟨(some 56), .append 1 8 (.t 53) (.t 55), none⟩,
        ⟨(some 9), .mv (.t 56), none⟩] [5, 9, 46, 47])
      .skip))))
    (.ops [
      ⟨(some 57), .bin .add (.t 47) (.c (.int .i64 1)), none⟩,
      ⟨(some 47), .mv (.t 57), none⟩] [5, 9, 46, 47])))))))
  (.seq (.ops [
    ⟨(some 58), .mv (.t 9), none⟩,
    ⟨(some 4), .mv (.t 58), none⟩] [4])
  .ret))))))))))⟩

def h_bandboxlaw18_has : Hint := [(0, [0, 1], []), (1, [0, 1, 5], []), (2, [0, 1, 5, 9], []), (3, [0, 1, 5], []), (4, [0, 1, 5, 17], []), (5, [4], []), (6, [4], [])]
def ir_bandboxlaw18_has : AFunc := ⟨2, 18, [.tmp 4],
 (.seq (.ops [
   ⟨(some 4), .mv (.c (.bool false)), none⟩] [0, 1])
 (.seq (.seq (.ops [
   ⟨(some 5), .mv (.c (.int .i64 0)), none⟩] [0, 1, 5])
 (.block 0
  (.loop
   (.seq (.seq (.ops [
     ⟨(some 6), .mv (.t 5), none⟩,
     ⟨(some 7), .mv (.t 0), none⟩,
     ⟨(some 8), .lenS (.t 7), none⟩,
     ⟨(some 9), .bin .lss (.t 6) (.t 8), none⟩] [0, 1, 5, 9])
   (.cond (.t 9)
    .skip
    (.exit 0)))
   (.seq (.block 1
    (.seq (.ops [
      ⟨(some 12), .mv (.t 0), none⟩,
      ⟨(some 13), .mv (.t 5), none⟩,
      ⟨(some 14), .iaddrS 1 (.t 12) (.t 13), none⟩,
      ⟨(some 15), .load none (.t 14), none⟩,
      ⟨(some 16), .mv (.t 1), none⟩,
      ⟨(some 17), .bin .eql (.t 15) (.t 16), none⟩] [0, 1, 5, 17])
    (.cond (.t 17)
     (.seq (.ops [
       ⟨(some 4), .mv (.c (.bool true)), none⟩] [4])
     .ret)
     .skip)))
   (.ops [
     ⟨(some 10), .mv (.t 5), none⟩,
     ⟨(some 11), .bin .add (.t 10) (.c (.int .i64 1)), none⟩,
     ⟨(some 5), .mv (.t 11), none⟩] [0, 1, 5]))))))
 (.seq (.ops [
   ⟨(some 4), .mv (.c (.bool false)), none⟩] [4])
 .ret)))⟩

def h_bandboxlaw18_same : Hint := [(0, [0, 1], []), (1, [0, 1, 10], []), (2, [4], []), (3, [0, 1, 5], []), (4, [0, 1, 5, 14], []), (5, [0, 1, 5], []), (6, [0, 1, 5, 25], [(0, 0), (1, 0), (2, 0), (3, 0), (4, 0), (5, 0), (6, 0), (7, 0), (8, 0)]), (7, [4], []), (8, [4], [])]
def ir_bandboxlaw18_same : AFunc := ⟨2, 26, [.tmp 4],
 (.seq (.ops [
   ⟨(some 4), .mv (.c (.bool false)), none⟩] [0, 1])
 (.seq (.seq (.ops [
   ⟨(some 6), .mv (.t 0), none⟩,
   ⟨(some 7), .lenS (.t 6), none⟩,
   ⟨(some 8), .mv (.t 1), none⟩,
   ⟨(some 9), .lenS (.t 8), none⟩,
   ⟨(some 10), .bin .neq (.t 7) (.t 9), none⟩] [0, 1, 10])
 (.cond (.t 10)
  (.seq (.ops [
    ⟨(some 4), .mv (.c (.bool false)), none⟩] [4])
  .ret)
  .skip))
 (.seq (.seq (.ops [
   ⟨(some 5), .mv (.c (.int .i64 0)), none⟩] [0, 1, 5])
 (.block 0
  (.loop
   (.seq (.seq (.ops [
     ⟨(some 11), .mv (.t 5), none⟩,
     ⟨(some 12), .mv (.t 0), none⟩,
     ⟨(some 13), .lenS (.t 12), none⟩,
     ⟨(some 14), .bin .lss (.t 11) (.t 13), none⟩] [0, 1, 5, 14])
   (.cond (.t 14)
    .skip
    (.exit 0)))
   (.seq (.block 1
    (.seq (.dops [
      ⟨0, (some 17), .mv (.t 0), none, 0⟩,
      ⟨1, (some 18), .mv (.t 5), none, 0⟩,
      ⟨2, (some 19), .iaddrS 1 (.t 17) (.t 18), none, 0⟩,
      ⟨3, (some 20), .load none (.t 19), none, 0⟩,
      ⟨4, (some 21), .mv (.t 1), none, 0⟩,
      ⟨5, (some 22), .mv (.t 5), none, 0⟩,
      ⟨6, (some 23), .iaddrS 1 (.t 21) (.t 22), none, 0⟩,
      ⟨7, (some 24), .load none (.t 23), none, 0⟩,
      ⟨8, (some 25), .bin .neq (.t 20) (.t 24), none, 0⟩] [0, 1, 5, 25])
    (.cond (.t 25)
     (.seq (.ops [
       ⟨(some 4), .mv (.c (.bool false)), none⟩] [4])
     .ret)
     .skip)))
   (.ops [
     ⟨(some 15), .mv (.t 5), none⟩,
     ⟨(some 16), .bin .add (.t 15) (.c (.int .i64 1)), none⟩,
     ⟨(some 5), .mv (.t 16), none⟩] [0, 1, 5]))))))
 (.seq (.ops [
   ⟨(some 4), .mv (.c (.bool true)), none⟩] [4])
 .ret))))⟩

def h_know_Can : Hint := [(0, [0, 1, 2], []), (1, [1, 11, 12, 13], []), (2, [1, 11, 12, 13, 14], []), (3, [1, 8, 11, 12, 13], []), (4, [1, 11, 12, 13, 19], []), (5, [6], []), (6, [1, 11, 12, 13], []), (7, [6], [])]
def ir_know_Can : AFunc := ⟨3, 21, [.tmp 6],
 (.seq (.ops [
   ⟨(some 6), .mv (.c (.bool false)), none⟩] [0, 1, 2])
 (.seq (.seq (.ops [
   ⟨(some 9), .mv (.t 0), none⟩,
   ⟨(some 10), .mv (.t 2), none⟩,
   ⟨(some 11), .call 17 [.t 9, .t 10], none⟩,
   ⟨(some 12), .lenS (.t 11), none⟩,
   ⟨(some 13), .mv (.c (.int .i64 0)), none⟩] [1, 11, 12, 13])
 (.block 0
  (.loop
   (.seq (.ops [
     ⟨(some 14), .bin .lss (.t 13) (.t 12), none⟩] [1, 11, 12, 13, 14])
   (.seq (.cond (.t 14)
    .skip
    (.exit 0))
   (.seq (.block 1
    (.seq (.ops [
      ⟨(some 15), .iaddrS 1 (.t 11) (.t 13), none⟩,
      ⟨(some 16), .load none (.t 15), none⟩,
      ⟨(some 8), .mv (.t 16), none⟩] [1, 8, 11, 12, 13])
    (.seq (.ops [
      ⟨(some 17), .mv (.t 8), none⟩,
      ⟨(some 18), .mv (.t 1), none⟩,
      ⟨(some 19), .bin .eql (.t 17) (.t 18), none⟩] [1, 11, 12, 13, 19])
    (.cond (.t 19)
     (.seq (.ops [
       ⟨(some 6), .mv (.c (.bool true)), none⟩] [6])
     .ret)
     .skip))))
   (.ops [
     ⟨(some 20), .bin .add (.t 13) (.c (.int .i64 1)), none⟩,
     ⟨(some 13), .mv (.t 20), none⟩] [1, 11, 12, 13])))))))
 (.seq (.ops [
   ⟨(some 6), .mv (.c (.bool false)), none⟩] [6])
 .ret)))⟩

def h_know_Same : Hint := [(0, [0, 1, 2], []), (1, [0, 1, 2, 24], []), (2, [6], []), (3, [1, 2, 7], []), (4, [6], [(0, 0), (1, 0), (2, 0), (3, 0), (4, 0), (5, 0), (6, 0), (7, 0), (8, 0), (9, 0)])]
def ir_know_Same : AFunc := ⟨3, 36, [.tmp 6],
 (.seq (.ops [
   ⟨(some 6), .mv (.c (.bool false)), none⟩] [0, 1, 2])
 (.seq (.seq (.ops [
   ⟨(some 8), .mv (.t 0), none⟩,
   ⟨(some 9), .call 16 [.t 8], none⟩,
   ⟨(some 10), .un .not (.t 9), none⟩,
   ⟨(some 11), .mv (.t 10), none⟩,
   ⟨(some 12), .mv (.t 1), (some (11, false))⟩,
   ⟨(some 13), .mv (.t 0), (some (11, false))⟩,
   ⟨(some 14), .lenS (.t 13), (some (11, false))⟩,
   ⟨(some 15), .call 45 [.t 12, .t 14], (some (11, false))⟩,
   ⟨(some 16), .un .not (.t 15), (some (11, false))⟩,
   ⟨(some 17), .pick (.t 11) (.c (.bool true)) (.t 16), none⟩,
   ⟨(some 18), .mv (.t 17), none⟩,
   ⟨(some 19), .mv (.t 2), (some (18, false))⟩,
   ⟨(some 20), .mv (.t 0), (some (18, false))⟩,
   ⟨(some 21), .lenS (.t 20), (some (18, false))⟩,
   ⟨(some 22), .call 45 [.t 19, .t 21], (some (18, false))⟩,
   ⟨(some 23), .un .not (.t 22), (some (18, false))⟩,
   ⟨(some 24), .pick (.t 18) (.c (.bool true)) (.t 23), none⟩] [0, 1, 2, 24])
 (.cond (.t 24)
  (.seq (.ops [
    ⟨(some 6), .mv (.c (.bool false)), none⟩] [6])
  .ret)
  .skip))
 (.seq (.ops [
   ⟨(some 25), .mv (.t 0), none⟩,
   ⟨(some 26), .call 46 [.t 25], none⟩,
   ⟨(some 7), .mv (.t 26), none⟩] [1, 2, 7])
 (.seq (.dops [
   ⟨0, (some 27), .mv (.t 7), none, 0⟩,
   ⟨1, (some 28), .mv (.t 1), none, 0⟩,
   ⟨2, (some 29), .iaddrS 1 (.t 27) (.t 28), none, 0⟩,
   ⟨3, (some 30), .load none (.t 29), none, 0⟩,
   ⟨4, (some 31), .mv (.t 7), none, 0⟩,
   ⟨5, (some 32), .mv (.t 2), none, 0⟩,
   ⟨6, (some 33), .iaddrS 1 (.t 31) (.t 32), none, 0⟩,
   ⟨7, (some 34), .load none (.t 33), none, 0⟩,
   ⟨8, (some 35), .bin .eql (.t 30) (.t 34), none, 0⟩,
   ⟨9, (some 6), .mv (.t 35), none, 0⟩] [6])
 .ret))))⟩

def h_bandboxlaw18_box : Hint := [(0, [], []), (1, [0], [])]
def ir_bandboxlaw18_box : AFunc := ⟨0, 5, [.tmp 0],
 (.seq (.ops [
   ⟨(some 0), .mv (.c (.slice none 0 0)), none⟩] [])
 (.seq (.ops [
   ⟨(some 1), .build ([.int .i64 0, .int .i64 0, .int .i64 0, .int .i64 0]) [(0, 1, .c (.int .i64 1))], none⟩,
   ⟨(some 2), .build ([.int .i64 0, .int .i64 0, .int .i64 0, .int .i64 0]) [(0, 1, .c (.int .i64 1))], none⟩,
   ⟨(some 3), .build ([.int .i64 0, .int .i64 0, .int .i64 0, .int .i64 0]) [(0, 1, .c (.int .i64 3)), (1, 1, .c (.int .i64 0)), (2, 1, .c (.int .i64 1))], none⟩,
   ⟨(some 4), .bslice 3 4 ([.int .i64 0, .int .i64 0, .int .i64 0, .int .i64 0]) [(0, 4, .t 1), (4, 4, .t 2), (8, 4, .t 3)], none⟩,
   ⟨(some 0), .mv (.t 4), none⟩] [0])
 .ret))⟩

def h_know_below : Hint := [(0, [0, 1], []), (1, [4], [])]
def ir_know_below : AFunc := ⟨2, 12, [.tmp 4],
 (.seq (.ops [
   ⟨(some 4), .mv (.c (.bool false)), none⟩] [0, 1])
 (.seq (.ops [
   ⟨(some 5), .mv (.t 0), none⟩,
   ⟨(some 6), .bin .geq (.t 5) (.c (.int .i64 0)), none⟩,
   ⟨(some 7), .mv (.t 6), none⟩,
   ⟨(some 8), .mv (.t 0), (some (7, true))⟩,
   ⟨(some 9), .mv (.t 1), (some (7, true))⟩,
   ⟨(some 10), .bin .lss (.t 8) (.t 9), (some (7, true))⟩,
   ⟨(some 11), .pick (.t 7) (.t 10) (.c (.bool false)), none⟩,
   ⟨(some 4), .mv (.t 11), none⟩] [4])
 .ret))⟩

def h_know_firsts : Hint := [(0, [0], []), (1, [0, 3], []), (2, [0, 3, 4], []), (3, [3, 4, 14, 15, 16], []), (4, [3, 4, 14, 15, 16, 17], []), (5, [3, 4, 5, 6, 14, 15, 16], []), (6, [3, 4, 5, 6, 7, 14, 15, 16], []), (7, [3, 4, 5, 6, 7, 14, 15, 16, 25], []), (8, [3, 4, 5, 6, 7, 14, 15, 16, 25, 26], []), (9, [3, 4, 5, 7, 14, 15, 16], []), (10, [3, 4, 5, 6, 7, 14, 15, 16, 25, 30], []), (11, [3, 4, 5, 6, 7, 14, 15, 16, 25, 30], []), (12, [3, 4, 5, 7, 14, 15, 16], [(0, 0), (1, 0), (2, 0), (3, 0), (4, 0), (10, 0), (11, 0), (5, 1), (6, 1), (7, 1), (8, 1), (9, 1), (12, 0), (13, 0)]), (13, [3, 4, 5, 6, 7, 14, 15, 16, 45], []), (14, [3, 4, 5, 7, 14, 15, 16], [(0, 0), (1, 0), (2, 0), (3, 0), (4, 0), (7, 0), (8, 0), (5, 1), (6, 1), (9, 0), (10, 0)]), (15, [3, 4, 5, 7, 8, 9, 14, 15, 16], []), (16, [3, 4, 5, 7, 8, 14, 15, 16, 63], []), (17, [3, 4, 5, 7, 8, 14, 15, 16], []), (18, [3, 4, 5, 8, 14, 15, 16], []), (19, [3, 4, 14, 15, 16], []), (20, [3, 4, 14, 15, 16], []), (21, [2], [])]
def ir_know_firsts_57 : ACode := (.seq (.ops [
      ⟨(some 57), .mv (.t 4), none⟩,
      ⟨(some 58), .load (some 4) (.t 7), none⟩,
      ⟨(some 59), .lookup (.agg ([some .i64, some .i64, some .i64, some .i64])) (.int .i64 0) true (.t 57) (.t 58), none⟩,
      ⟨(some 56), .mv (.t 59), none⟩,
      ⟨(some 60), .ext (.t 56) 0, none⟩,
      ⟨(some 61), .ext (.t 56) 1, none⟩,
      ⟨(some 8), .mv (.t 60), none⟩,
      ⟨(some 9), .mv (.t 61), none⟩] [3, 4, 5, 7, 8, 9, 14, 15, 16])
 (.seq (.seq (.ops [
      ⟨(some 62), .mv (.t 9), none⟩,
      ⟨(some 63), .un .not (.t 62), none⟩] [3, 4, 5, 7, 8, 14, 15, 16, 63])
 (.cond (.t 63)
 (.seq (.ops [
       ⟨(some 64), .mv (.t 5), none⟩,
       ⟨(some 8), .mv (.t 64), none⟩] [3, 4, 5, 7, 8, 14, 15, 16])
 (.ops [
       ⟨(some 65), .mv (.t 4), none⟩,
       ⟨(some 66), .load (some 4) (.t 7), none⟩,
       ⟨(some 67), .mv (.t 5), none⟩,
       ⟨none, .mupd (.agg ([some .i64, some .i64, some .i64, some .i64])) (.t 65) (.t 66) (.t 67), none⟩] [3, 4, 5, 8, 14, 15, 16]))
 .skip))
 (.ops [
      ⟨(some 68), .mv (.t 3), none⟩,
      ⟨(some 69), .mv (.t 5), none⟩,
      ⟨(some 70), .mv (.t 8), none⟩,
      ⟨(some 71), .iaddrS 1 (.t 68) (.t 69), none⟩,
      ⟨none, .store 1 (.t 71) (.t 70), none⟩] [3, 4, 14, 15, 16])))
def ir_know_firsts : AFunc := ⟨1, 74, [.tmp 2],
 (.seq (.ops [
   ⟨(some 2), .mv (.c (.slice none 0 0)), none⟩] [0])
 (.seq (.ops [
   ⟨(some 10), .mv (.t 0), none⟩,
   ⟨(some 11), .lenS (.t 10), none⟩,
   ⟨(some 12), .mslice 8 ([.int .i64 0]) (.t 11) (.t 11), none⟩,
   ⟨(some 3), .mv (.t 12), none⟩] [0, 3])
 (.seq (.ops [
   ⟨(some 13), .mmap, none⟩,
   ⟨(some 4), .mv (.t 13), none⟩] [0, 3, 4])
 (.seq (.seq (.ops [
   ⟨(some 14), .mv (.t 0), none⟩,
   ⟨(some 15), .lenS (.t 14), none⟩,
   ⟨(some 16), .mv (.c (.int .i64 0)), none⟩] [3, 4, 14, 15, 16])
 (.block 0 (.loop (.seq (.ops [
     ⟨(some 17), .bin .lss (.t 16) (.t 15), none⟩] [3, 4, 14, 15, 16, 17])
 (.seq (.cond (.t 17)
 .skip
 (.exit 0))
 (.seq (.block 1 (.seq (.ops [
      ⟨(some 18), .mv (.t 16), none⟩,
      ⟨(some 19), .iaddrS 4 (.t 14) (.t 16), none⟩,
      ⟨(some 20), .load (some 4) (.t 19), none⟩,
      ⟨(some 6), .alloc ([.int .i64 0, .int .i64 0, .int .i64 0, .int .i64 0]), none⟩,
      ⟨(some 5), .mv (.t 18), none⟩,
      ⟨none, .store 4 (.t 6) (.t 20), none⟩] [3, 4, 5, 6, 14, 15, 16])
 (.seq (.ops [
      ⟨(some 21), .faddr 0 (.t 6), none⟩,
      ⟨(some 22), .load none (.t 21), none⟩,
      ⟨(some 23), .build ([.int .i64 0, .int .i64 0, .int .i64 0, .int .i64 0]) [(0, 1, .t 22)], none⟩,
      ⟨(some 7), .alloc ([.int .i64 0, .int .i64 0, .int .i64 0, .int .i64 0]), none⟩,
      ⟨none, .store 4 (.t 7) (.t 23), none⟩] [3, 4, 5, 6, 7, 14, 15, 16])
 (.seq (.seq (.ops [
      ⟨(some 24), .faddr 0 (.t 6), none⟩,
      ⟨(some 25), .load none (.t 24), none⟩] [3, 4, 5, 6, 7, 14, 15, 16, 25])
 (.block 2 (.seq (.ops [
       ⟨(some 27), .bin .eql (.t 25) (.c (.int .i64 1)), none⟩,
       ⟨(some 26), .mv (.t 27), none⟩] [3, 4, 5, 6, 7, 14, 15, 16, 25, 26])
 (.cond (.t 26)
 (.ops [
        ⟨(some 28), .mv (.t 5), none⟩,
        ⟨(some 29), .faddr 3 (.t 7), none⟩,
        ⟨none, .store 1 (.t 29) (.t 28), none⟩] [3, 4, 5, 7, 14, 15, 16])
 (.seq (.seq (.ops [
        ⟨(some 31), .bin .eql (.t 25) (.c (.int .i64 2)), none⟩,
        ⟨(some 30), .mv (.t 31), none⟩] [3, 4, 5, 6, 7, 14, 15, 16, 25, 30])
 (.cond (.t 30)
 .skip
 (.ops [
         ⟨(some 32), .bin .eql (.t 25) (.c (.int .i64 3)), none⟩,
         ⟨(some 30), .mv (.t 32), none⟩] [3, 4, 5, 6, 7, 14, 15, 16, 25, 30])))
 (.cond (.t 30)
 (.dops [
         ⟨0, (some 33), .mv (.t 3), none, 0⟩,
         ⟨1, (some 34), .faddr 1 (.t 6), none, 0⟩,
         ⟨2, (some 35), .load none (.t 34), none, 0⟩,
         ⟨3, (some 36), .iaddrS 1 (.t 33) (.t 35), none, 0⟩,
         ⟨4, (some 37), .load none (.t 36), none, 0⟩,
         ⟨10, (some 43), .faddr 1 (.t 7), none, 0⟩,
         ⟨11, none, .store 1 (.t 43) (.t 37), none, 0⟩,
         ⟨5, (some 38), .mv (.t 3), none, 1⟩,
         ⟨6, (some 39), .faddr 2 (.t 6), none, 1⟩,
         ⟨7, (some 40), .load none (.t 39), none, 1⟩,
         ⟨8, (some 41), .iaddrS 1 (.t 38) (.t 40), none, 1⟩,
         ⟨9, (some 42), .load none (.t 41), none, 1⟩,
         ⟨12, (some 44), .faddr 2 (.t 7), none, 0⟩,
         ⟨13, none, .store 1 (.t 44) (.t 42), none, 0⟩] [3, 4, 5, 7, 14, 15, 16])
 (.seq (.ops [
         ⟨(some 46), .bin .eql (.t 25) (.c (.int .i64 4)), none⟩,
         ⟨(some 45), .mv (.t 46), none⟩] [3, 4, 5, 6, 7, 14, 15, 16, 45])
 (.cond (.t 45)
 (.dops [
          ⟨0, (some 47), .mv (.t 3), none, 0⟩,
          ⟨1, (some 48), .faddr 1 (.t 6), none, 0⟩,
          ⟨2, (some 49), .load none (.t 48), none, 0⟩,
          ⟨3, (some 50), .iaddrS 1 (.t 47) (.t 49), none, 0⟩,
          ⟨4, (some 51), .load none (.t 50), none, 0⟩,
          ⟨7, (some 54), .faddr 1 (.t 7), none, 0⟩,
          ⟨8, none, .store 1 (.t 54) (.t 51), none, 0⟩,
          ⟨5, (some 52), .faddr 3 (.t 6), none, 1⟩,
          ⟨6, (some 53), .load none (.t 52), none, 1⟩,
          ⟨9, (some 55), .faddr 3 (.t 7), none, 0⟩,
          ⟨10, none, .store 1 (.t 55) (.t 53), none, 0⟩] [3, 4, 5, 7, 14, 15, 16])
 .skip))))))))
 ir_know_firsts_57))))
 (.ops [
     ⟨(some 72), .bin .add (.t 16) (.c (.int .i64 1)), none⟩,
     ⟨(some 16), .mv (.t 72), none⟩] [3, 4, 14, 15, 16])))))))
 (.seq (.ops [
   ⟨(some 73), .mv (.t 3), none⟩,
   ⟨(some 2), .mv (.t 73), none⟩] [2])
 .ret)))))⟩

def h_know_knower_learn : Hint := [(0, [0, 1], []), (1, [0, 1, 5], []), (2, [5], [(0, 0), (1, 0), (2, 0), (3, 0), (4, 0), (5, 0), (6, 0), (7, 0), (8, 0), (9, 0), (10, 0), (11, 0), (12, 0)]), (3, [4], [])]
def ir_know_knower_learn : AFunc := ⟨2, 23, [.tmp 4],
 (.seq (.ops [
   ⟨(some 4), .mv (.c (.bool false)), none⟩] [0, 1])
 (.seq (.ops [
   ⟨(some 6), .mv (.t 0), none⟩,
   ⟨(some 7), .mv (.t 1), none⟩,
   ⟨(some 8), .call 49 [.t 6, .t 7], none⟩,
   ⟨(some 9), .un .not (.t 8), none⟩,
   ⟨(some 5), .mv (.t 9), none⟩] [0, 1, 5])
 (.seq (.dops [
   ⟨0, (some 10), .mv (.t 0), none, 0⟩,
   ⟨1, (some 11), .nilc (.t 10), none, 0⟩,
   ⟨2, (some 12), .faddr 2 (.t 11), none, 0⟩,
   ⟨3, (some 13), .load none (.t 12), none, 0⟩,
   ⟨4, (some 14), .mv (.t 0), none, 0⟩,
   ⟨5, (some 15), .nilc (.t 14), none, 0⟩,
   ⟨6, (some 16), .faddr 1 (.t 15), none, 0⟩,
   ⟨7, (some 17), .load none (.t 16), none, 0⟩,
   ⟨8, (some 18), .mv (.t 1), none, 0⟩,
   ⟨9, (some 19), .iaddrS 1 (.t 17) (.t 18), none, 0⟩,
   ⟨10, (some 20), .load none (.t 19), none, 0⟩,
   ⟨11, (some 21), .iaddrS 1 (.t 13) (.t 20), none, 0⟩,
   ⟨12, none, .store 1 (.t 21) (.c (.bool true)), none, 0⟩] [5])
 (.seq (.ops [
   ⟨(some 22), .mv (.t 5), none⟩,
   ⟨(some 4), .mv (.t 22), none⟩] [4])
 .ret))))⟩

def h_know_knower_step : Hint := [(0, [0, 1], []), (1, [0, 1, 5], []), (2, [0, 1, 5, 17], []), (3, [0, 5, 18], []), (4, [6, 7], [(0, 0), (1, 0), (2, 0), (3, 0), (4, 1), (5, 1), (6, 1), (7, 0), (8, 0), (9, 0)]), (5, [4], []), (6, [0, 5, 34], []), (7, [4], []), (8, [4], []), (9, [0, 1, 5, 49], []), (10, [0, 1, 5, 49, 50], []), (11, [0, 1, 5, 49, 50], []), (12, [4], []), (13, [0, 1, 5, 68], []), (14, [4], []), (15, [4], [])]
def ir_know_knower_step : AFunc := ⟨2, 79, [.tmp 4],
 (.seq (.ops [
   ⟨(some 4), .mv (.c (.bool false)), none⟩] [0, 1])
 (.seq (.ops [
   ⟨(some 8), .mv (.t 0), none⟩,
   ⟨(some 9), .nilc (.t 8), none⟩,
   ⟨(some 10), .faddr 0 (.t 9), none⟩,
   ⟨(some 11), .load none (.t 10), none⟩,
   ⟨(some 12), .mv (.t 1), none⟩,
   ⟨(some 13), .iaddrS 4 (.t 11) (.t 12), none⟩,
   ⟨(some 14), .load (some 4) (.t 13), none⟩,
   ⟨(some 5), .alloc ([.int .i64 0, .int .i64 0, .int .i64 0, .int .i64 0]), none⟩,
   ⟨none, .store 4 (.t 5) (.t 14), none⟩] [0, 1, 5])
 (.seq (.seq (.ops [
   ⟨(some 15), .mv (.t 0), none⟩,
   ⟨(some 16), .mv (.t 1), none⟩,
   ⟨(some 17), .call 49 [.t 15, .t 16], none⟩] [0, 1, 5, 17])
 (.cond (.t 17)
  (.seq (.block 0
   (.seq (.ops [
     ⟨(some 19), .faddr 0 (.t 5), none⟩,
     ⟨(some 20), .load none (.t 19), none⟩,
     ⟨(some 21), .bin .eql (.t 20) (.c (.int .i64 2)), none⟩,
     ⟨(some 18), .mv (.t 21), none⟩] [0, 5, 18])
   (.cond (.t 18)
    (.seq (.dops [
      ⟨0, (some 22), .mv (.t 0), none, 0⟩,
      ⟨1, (some 23), .faddr 1 (.t 5), none, 0⟩,
      ⟨2, (some 24), .load none (.t 23), none, 0⟩,
      ⟨3, (some 25), .call 47 [.t 22, .t 24], none, 0⟩,
      ⟨4, (some 26), .mv (.t 0), none, 1⟩,
      ⟨5, (some 27), .faddr 2 (.t 5), none, 1⟩,
      ⟨6, (some 28), .load none (.t 27), none, 1⟩,
      ⟨7, (some 29), .call 47 [.t 26, .t 28], none, 0⟩,
      ⟨8, (some 6), .mv (.t 25), none, 0⟩,
      ⟨9, (some 7), .mv (.t 29), none, 0⟩] [6, 7])
    (.seq (.ops [
      ⟨(some 30), .mv (.t 6), none⟩,
      ⟨(some 31), .mv (.t 30), none⟩,
      ⟨(some 32), .mv (.t 7), (some (31, false))⟩,
      ⟨(some 33), .pick (.t 31) (.c (.bool true)) (.t 32), none⟩,
      ⟨(some 4), .mv (.t 33), none⟩] [4])
    .ret))
    (.seq (.ops [
      ⟨(some 35), .faddr 0 (.t 5), none⟩,
      ⟨(some 36), .load none (.t 35), none⟩,
      ⟨(some 37), .bin .eql (.t 36) (.c (.int .i64 3)), none⟩,
      ⟨(some 38), .mv (.t 37), none⟩,
      ⟨(some 39), .mv (.t 0), (some (38, true))⟩,
      ⟨(some 40), .faddr 1 (.t 5), (some (38, true))⟩,
      ⟨(some 41), .load none (.t 40), (some (38, true))⟩,
      ⟨(some 42), .call 49 [.t 39, .t 41], (some (38, true))⟩,
      ⟨(some 43), .pick (.t 38) (.t 42) (.c (.bool false)), none⟩,
      ⟨(some 34), .mv (.t 43), none⟩] [0, 5, 34])
    (.cond (.t 34)
     (.seq (.ops [
       ⟨(some 44), .mv (.t 0), none⟩,
       ⟨(some 45), .faddr 2 (.t 5), none⟩,
       ⟨(some 46), .load none (.t 45), none⟩,
       ⟨(some 47), .call 47 [.t 44, .t 46], none⟩,
       ⟨(some 4), .mv (.t 47), none⟩] [4])
     .ret)
     .skip)))))
  (.seq (.ops [
    ⟨(some 4), .mv (.c (.bool false)), none⟩] [4])
  .ret))
  .skip))
 (.seq (.seq (.ops [
   ⟨(some 48), .faddr 0 (.t 5), none⟩,
   ⟨(some 49), .load none (.t 48), none⟩] [0, 1, 5, 49])
 (.block 1
  (.seq (.seq (.ops [
    ⟨(some 51), .bin .eql (.t 49) (.c (.int .i64 2)), none⟩,
    ⟨(some 50), .mv (.t 51), none⟩] [0, 1, 5, 49, 50])
  (.cond (.t 50)
   .skip
   (.ops [
     ⟨(some 52), .bin .eql (.t 49) (.c (.int .i64 3)), none⟩,
     ⟨(some 50), .mv (.t 52), none⟩] [0, 1, 5, 49, 50])))
  (.cond (.t 50)
   (.seq (.ops [
     ⟨(some 53), .mv (.t 0), none⟩,
     ⟨(some 54), .faddr 1 (.t 5), none⟩,
     ⟨(some 55), .load none (.t 54), none⟩,
     ⟨(some 56), .call 49 [.t 53, .t 55], none⟩,
     ⟨(some 57), .mv (.t 56), none⟩,
     ⟨(some 58), .mv (.t 0), (some (57, true))⟩,
     ⟨(some 59), .faddr 2 (.t 5), (some (57, true))⟩,
     ⟨(some 60), .load none (.t 59), (some (57, true))⟩,
     ⟨(some 61), .call 49 [.t 58, .t 60], (some (57, true))⟩,
     ⟨(some 62), .pick (.t 57) (.t 61) (.c (.bool false)), none⟩,
     ⟨(some 63), .mv (.t 62), none⟩,
     ⟨(some 64), .mv (.t 0), (some (63, true))⟩,
     ⟨(some 65), .mv (.t 1), (some (63, true))⟩,
     ⟨(some 66), .call 47 [.t 64, .t 65], (some (63, true))⟩,
     ⟨(some 67), .pick (.t 63) (.t 66) (.c (.bool false)), none⟩,
     ⟨(some 4), .mv (.t 67), none⟩] [4])
   .ret)
   (.seq (.ops [
     ⟨(some 69), .bin .eql (.t 49) (.c (.int .i64 4)), none⟩,
     ⟨(some 68), .mv (.t 69), none⟩] [0, 1, 5, 68])
   (.cond (.t 68)
    (.seq (.ops [
      ⟨(some 70), .mv (.t 0), none⟩,
      ⟨(some 71), .faddr 1 (.t 5), none⟩,
      ⟨(some 72), .load none (.t 71), none⟩,
      ⟨(some 73), .call 49 [.t 70, .t 72], none⟩,
      ⟨(some 74), .mv (.t 73), none⟩,
      ⟨(some 75), .mv (.t 0), (some (74, true))⟩,
      ⟨(some 76), .mv (.t 1), (some (74, true))⟩,
      ⟨(some 77), .call 47 [.t 75, .t 76], (some (74, true))⟩,
      ⟨(some 78), .pick (.t 74) (.t 77) (.c (.bool false)), none⟩,
      ⟨(some 4), .mv (.t 78), none⟩] [4])
    .ret)
    .skip))))))
 (.seq (.ops [
   ⟨(some 4), .mv (.c (.bool false)), none⟩] [4])
 .ret)))))⟩

def h_know_knower_has : Hint := [(0, [0, 1], []), (1, [4], [(0, 0), (1, 0), (2, 0), (3, 0), (4, 0), (5, 0), (6, 0), (7, 0), (8, 0), (9, 0), (10, 0), (11, 0), (12, 0), (13, 0)])]
def ir_know_knower_has : AFunc := ⟨2, 18, [.tmp 4],
 (.seq (.ops [
   ⟨(some 4), .mv (.c (.bool false)), none⟩] [0, 1])
 (.seq (.dops [
   ⟨0, (some 5), .mv (.t 0), none, 0⟩,
   ⟨1, (some 6), .nilc (.t 5), none, 0⟩,
   ⟨2, (some 7), .faddr 2 (.t 6), none, 0⟩,
   ⟨3, (some 8), .load none (.t 7), none, 0⟩,
   ⟨4, (some 9), .mv (.t 0), none, 0⟩,
   ⟨5, (some 10), .nilc (.t 9), none, 0⟩,
   ⟨6, (some 11), .faddr 1 (.t 10), none, 0⟩,
   ⟨7, (some 12), .load none (.t 11), none, 0⟩,
   ⟨8, (some 13), .mv (.t 1), none, 0⟩,
   ⟨9, (some 14), .iaddrS 1 (.t 12) (.t 13), none, 0⟩,
   ⟨10, (some 15), .load none (.t 14), none, 0⟩,
   ⟨11, (some 16), .iaddrS 1 (.t 8) (.t 15), none, 0⟩,
   ⟨12, (some 17), .load none (.t 16), none, 0⟩,
   ⟨13, (some 4), .mv (.t 17), none, 0⟩] [4])
 .ret))⟩

noncomputable def tabT : NT := (.node 20 (h_know_Can, ir_know_Can) (.node 16 (h_know_Good, ir_know_Good) (.node 6 (h_bandboxlaw18_KnowPairs, ir_bandboxlaw18_KnowPairs) (.node 3 (h_bandboxlaw18_KnowSealed, ir_bandboxlaw18_KnowSealed) .leaf .leaf) (.node 15 (h_bandboxlaw18_awake, ir_bandboxlaw18_awake) .leaf .leaf)) (.node 18 (h_bandboxlaw18_has, ir_bandboxlaw18_has) (.node 17 (h_know_All, ir_know_All) .leaf .leaf) (.node 19 (h_bandboxlaw18_same, ir_bandboxlaw18_same) .leaf .leaf))) (.node 46 (h_know_firsts, ir_know_firsts) (.node 44 (h_bandboxlaw18_box, ir_bandboxlaw18_box) (.node 21 (h_know_Same, ir_know_Same) .leaf .leaf) (.node 45 (h_know_below, ir_know_below) .leaf .leaf)) (.node 48 (h_know_knower_step, ir_know_knower_step) (.node 47 (h_know_knower_learn, ir_know_knower_learn) .leaf .leaf) (.node 49 (h_know_knower_has, ir_know_knower_has) .leaf .leaf))))
noncomputable def tab : Nat → Option (Hint × AFunc) := tabT.find
abbrev n_bandboxlaw18_KnowSealed : Nat := 3
abbrev n_bandboxlaw18_KnowPairs : Nat := 6
abbrev n_bandboxlaw18_awake : Nat := 15
abbrev n_know_Good : Nat := 16
abbrev n_know_All : Nat := 17
abbrev n_bandboxlaw18_has : Nat := 18
abbrev n_bandboxlaw18_same : Nat := 19
abbrev n_know_Can : Nat := 20
abbrev n_know_Same : Nat := 21
abbrev n_bandboxlaw18_box : Nat := 44
abbrev n_know_below : Nat := 45
abbrev n_know_firsts : Nat := 46
abbrev n_know_knower_learn : Nat := 47
abbrev n_know_knower_step : Nat := 48
abbrev n_know_knower_has : Nat := 49
end Go.Bb
