/- The functions that this claim reaches, in short form; printed by a program of mine. -/
import Derived.Test.YtfnofecgpheaoaaDoorBbG3
namespace Go.Bb
set_option maxRecDepth 20000
def h_bandboxlaw12_awake : Hint := [(0, [], []), (1, [1, 2], []), (2, [1, 2, 3, 4], []), (3, [0], [])]
def ir_bandboxlaw12_awake : AFunc := ⟨0, 27, [.tmp 0],
 (.seq (.ops [
   ⟨(some 0), .mv (.c (.bool false)), none⟩] [])
 (.seq (.ops [
   ⟨(some 6), .call 14 [.c (.int .i64 63)], none⟩,
   ⟨(some 5), .mv (.t 6), none⟩,
   ⟨(some 7), .ext (.t 5) 0, none⟩,
   ⟨(some 8), .ext (.t 5) 1, none⟩,
   ⟨(some 1), .mv (.t 7), none⟩,
   ⟨(some 2), .mv (.t 8), none⟩] [1, 2])
 (.seq (.ops [
   ⟨(some 10), .call 14 [.c (.int .i64 64)], none⟩,
   ⟨(some 9), .mv (.t 10), none⟩,
   ⟨(some 11), .ext (.t 9) 0, none⟩,
   ⟨(some 12), .ext (.t 9) 1, none⟩,
   ⟨(some 3), .mv (.t 11), none⟩,
   ⟨(some 4), .mv (.t 12), none⟩] [1, 2, 3, 4])
 (.seq (.ops [
   ⟨(some 13), .mv (.t 2), none⟩,
   ⟨(some 14), .bin .eql (.t 13) (.c (.int .i64 0)), none⟩,
   ⟨(some 15), .mv (.t 14), none⟩,
   ⟨(some 16), .mv (.t 4), (some (15, true))⟩,
   ⟨(some 17), .bin .eql (.t 16) (.c (.int .i64 0)), (some (15, true))⟩,
   ⟨(some 18), .pick (.t 15) (.t 17) (.c (.bool false)), none⟩,
   ⟨(some 19), .mv (.t 18), none⟩,
   ⟨(some 20), .mv (.t 1), (some (19, true))⟩,
   ⟨(some 21), .bin .eql (.t 20) (.c (.int .i64 64)), (some (19, true))⟩,
   ⟨(some 22), .pick (.t 19) (.t 21) (.c (.bool false)), none⟩,
   ⟨(some 23), .mv (.t 22), none⟩,
   ⟨(some 24), .mv (.t 3), (some (23, true))⟩,
   ⟨(some 25), .bin .eql (.t 24) (.c (.int .i64 128)), (some (23, true))⟩,
   ⟨(some 26), .pick (.t 23) (.t 25) (.c (.bool false)), none⟩,
   ⟨(some 0), .mv (.t 26), none⟩] [0])
 .ret))))⟩

def h_pad_Bucket : Hint := [(0, [0], []), (1, [0, 5], []), (2, [2, 3], []), (3, [0, 8], []), (4, [2, 3], []), (5, [0, 4], []), (6, [0, 4, 14], []), (7, [0, 4], []), (8, [2, 3], [])]
def ir_pad_Bucket : AFunc := ⟨1, 18, [.tmp 2, .tmp 3],
 (.seq (.ops [
   ⟨(some 2), .mv (.c (.int .i64 0)), none⟩,
   ⟨(some 3), .mv (.c (.int .i64 0)), none⟩] [0])
 (.seq (.block 0
  (.seq (.ops [
    ⟨(some 6), .mv (.t 0), none⟩,
    ⟨(some 7), .bin .lss (.t 6) (.c (.int .i64 0)), none⟩,
    ⟨(some 5), .mv (.t 7), none⟩] [0, 5])
  (.cond (.t 5)
   (.seq (.ops [
     ⟨(some 2), .mv (.c (.int .i64 0)), none⟩,
     ⟨(some 3), .mv (.c (.int .i64 1)), none⟩] [2, 3])
   .ret)
   (.seq (.ops [
     ⟨(some 9), .mv (.t 0), none⟩,
     ⟨(some 10), .bin .geq (.t 9) (.c (.int .i64 65536)), none⟩,
     ⟨(some 8), .mv (.t 10), none⟩] [0, 8])
   (.cond (.t 8)
    (.seq (.ops [
      ⟨(some 2), .mv (.c (.int .i64 0)), none⟩,
      ⟨(some 3), .mv (.c (.int .i64 2)), none⟩] [2, 3])
    .ret)
    .skip)))))
 (.seq (.ops [
   ⟨(some 4), .mv (.c (.int .i64 64)), none⟩] [0, 4])
 (.seq (.block 1
  (.loop
   (.seq (.seq (.ops [
     ⟨(some 11), .mv (.t 4), none⟩,
     ⟨(some 12), .mv (.t 0), none⟩,
     ⟨(some 13), .bin .add (.t 12) (.c (.int .i64 1)), none⟩,
     ⟨(some 14), .bin .lss (.t 11) (.t 13), none⟩] [0, 4, 14])
   (.cond (.t 14)
    .skip
    (.exit 1)))
   (.block 2
    (.ops [
      ⟨(some 15), .mv (.t 4), none⟩,
      ⟨(some 16), .bin .mul (.t 15) (.c (.int .i64 2)), none⟩,
      ⟨(some 4), .mv (.t 16), none⟩] [0, 4])))))
 (.seq (.ops [
   ⟨(some 17), .mv (.t 4), none⟩,
   ⟨(some 2), .mv (.t 17), none⟩,
   ⟨(some 3), .mv (.c (.int .i64 0)), none⟩] [2, 3])
 .ret)))))⟩

def h_bandboxlaw12_PadSays : Hint := [(0, [0, 1, 2], []), (1, [0, 1, 2, 20], []), (2, [6], []), (3, [0, 1, 2, 28], []), (4, [6], []), (5, [0, 1, 2, 7, 8], []), (6, [1, 2, 7, 8, 9, 10], []), (7, [1, 2, 7, 8, 9, 10, 11, 12], []), (8, [2, 7, 8, 9, 10, 11, 12, 13, 14], []), (9, [2, 7, 8, 9, 10, 11, 12, 13, 14, 15, 16], []), (10, [7, 8, 9, 10, 11, 12, 13, 14, 15, 16, 17, 18], []), (11, [6], [])]
def ir_bandboxlaw12_PadSays : AFunc := ⟨3, 99, [.tmp 6],
 (.seq (.ops [
   ⟨(some 6), .mv (.c (.bool false)), none⟩] [0, 1, 2])
 (.seq (.seq (.ops [
   ⟨(some 19), .call 13 [], none⟩,
   ⟨(some 20), .un .not (.t 19), none⟩] [0, 1, 2, 20])
 (.cond (.t 20)
  (.seq (.ops [
    ⟨(some 6), .mv (.c (.bool false)), none⟩] [6])
  .ret)
  .skip))
 (.seq (.seq (.ops [
   ⟨(some 21), .mv (.t 1), none⟩,
   ⟨(some 22), .lenS (.t 21), none⟩,
   ⟨(some 23), .bin .gtr (.t 22) (.c (.int .i64 600)), none⟩,
   ⟨(some 24), .mv (.t 23), none⟩,
   ⟨(some 25), .mv (.t 2), (some (24, false))⟩,
   ⟨(some 26), .lenS (.t 25), (some (24, false))⟩,
   ⟨(some 27), .bin .gtr (.t 26) (.c (.int .i64 600)), (some (24, false))⟩,
   ⟨(some 28), .pick (.t 24) (.c (.bool true)) (.t 27), none⟩] [0, 1, 2, 28])
 (.cond (.t 28)
  (.seq (.ops [
    ⟨(some 6), .mv (.c (.bool true)), none⟩] [6])
  .ret)
  .skip))
 (.seq (.ops [
   ⟨(some 30), .mv (.t 0), none⟩,
   ⟨(some 31), .call 14 [.t 30], none⟩,
   ⟨(some 29), .mv (.t 31), none⟩,
   ⟨(some 32), .ext (.t 29) 0, none⟩,
   ⟨(some 33), .ext (.t 29) 1, none⟩,
   ⟨(some 7), .mv (.t 32), none⟩,
   ⟨(some 8), .mv (.t 33), none⟩] [0, 1, 2, 7, 8])
 (.seq (.ops [
   ⟨(some 35), .mv (.t 0), none⟩,
   ⟨(some 36), .call 154 [.t 35], none⟩,
   ⟨(some 34), .mv (.t 36), none⟩,
   ⟨(some 37), .ext (.t 34) 0, none⟩,
   ⟨(some 38), .ext (.t 34) 1, none⟩,
   ⟨(some 9), .mv (.t 37), none⟩,
   ⟨(some 10), .mv (.t 38), none⟩] [1, 2, 7, 8, 9, 10])
 (.seq (.ops [
   ⟨(some 40), .mv (.t 1), none⟩,
   ⟨(some 41), .call 152 [.t 40], none⟩,
   ⟨(some 39), .mv (.t 41), none⟩,
   ⟨(some 42), .ext (.t 39) 0, none⟩,
   ⟨(some 43), .ext (.t 39) 1, none⟩,
   ⟨(some 11), .mv (.t 42), none⟩,
   ⟨(some 12), .mv (.t 43), none⟩] [1, 2, 7, 8, 9, 10, 11, 12])
 (.seq (.ops [
   ⟨(some 45), .mv (.t 1), none⟩,
   ⟨(some 46), .call 155 [.t 45], none⟩,
   ⟨(some 44), .mv (.t 46), none⟩,
   ⟨(some 47), .ext (.t 44) 0, none⟩,
   ⟨(some 48), .ext (.t 44) 1, none⟩,
   ⟨(some 13), .mv (.t 47), none⟩,
   ⟨(some 14), .mv (.t 48), none⟩] [2, 7, 8, 9, 10, 11, 12, 13, 14])
 (.seq (.ops [
   ⟨(some 50), .mv (.t 2), none⟩,
   ⟨(some 51), .call 153 [.t 50], none⟩,
   ⟨(some 49), .mv (.t 51), none⟩,
   ⟨(some 52), .ext (.t 49) 0, none⟩,
   ⟨(some 53), .ext (.t 49) 1, none⟩,
   ⟨(some 15), .mv (.t 52), none⟩,
   ⟨(some 16), .mv (.t 53), none⟩] [2, 7, 8, 9, 10, 11, 12, 13, 14, 15, 16])
 (.seq (.ops [
   ⟨(some 55), .mv (.t 2), none⟩,
   ⟨(some 56), .call 156 [.t 55], none⟩,
   ⟨(some 54), .mv (.t 56), none⟩,
   ⟨(some 57), .ext (.t 54) 0, none⟩,
   ⟨(some 58), .ext (.t 54) 1, none⟩,
   ⟨(some 17), .mv (.t 57), none⟩,
   ⟨(some 18), .mv (.t 58), none⟩] [7, 8, 9, 10, 11, 12, 13, 14, 15, 16, 17, 18])
 (.seq (.ops [
   ⟨(some 59), .mv (.t 7), none⟩,
   ⟨(some 60), .mv (.t 9), none⟩,
   ⟨(some 61), .bin .eql (.t 59) (.t 60), none⟩,
   ⟨(some 62), .mv (.t 61), none⟩,
   ⟨(some 63), .mv (.t 8), (some (62, true))⟩,
   ⟨(some 64), .mv (.t 10), (some (62, true))⟩,
   ⟨(some 65), .bin .eql (.t 63) (.t 64), (some (62, true))⟩,
   ⟨(some 66), .pick (.t 62) (.t 65) (.c (.bool false)), none⟩,
   ⟨(some 67), .mv (.t 66), none⟩,
   ⟨(some 68), .mv (.t 11), (some (67, true))⟩,
   ⟨(some 69), .strOf (.t 68), (some (67, true))⟩,
   ⟨(some 70), .mv (.t 13), (some (67, true))⟩,
   ⟨(some 71), .strOf (.t 70), (some (67, true))⟩,
   ⟨(some 72), .bin .eql (.t 69) (.t 71), (some (67, true))⟩,
   ⟨(some 73), .pick (.t 67) (.t 72) (.c (.bool false)), none⟩,
   ⟨(some 74), .mv (.t 73), none⟩,
   ⟨(some 75), .mv (.t 12), (some (74, true))⟩,
   ⟨(some 76), .mv (.t 14), (some (74, true))⟩,
   ⟨(some 77), .bin .eql (.t 75) (.t 76), (some (74, true))⟩,
   ⟨(some 78), .pick (.t 74) (.t 77) (.c (.bool false)), none⟩,
   ⟨(some 79), .mv (.t 78), none⟩,
   ⟨(some 80), .mv (.t 15), (some (79, true))⟩,
   ⟨(some 81), .strOf (.t 80), (some (79, true))⟩,
   ⟨(some 82), .mv (.t 17), (some (79, true))⟩,
   ⟨(some 83), .strOf (.t 82), (some (79, true))⟩,
   ⟨(some 84), .bin .eql (.t 81) (.t 83), (some (79, true))⟩,
   ⟨(some 85), .pick (.t 79) (.t 84) (.c (.bool false)), none⟩,
   ⟨(some 86), .mv (.t 85), none⟩,
   ⟨(some 87), .mv (.t 16), (some (86, true))⟩,
   ⟨(some 88), .bin .eql (.t 87) (.c (.int .i64 0)), (some (86, true))⟩,
   ⟨(some 89), .mv (.t 18), (some (86, true))⟩,
   ⟨(some 90), .eqv .bool false (.t 88) (.t 89), (some (86, true))⟩,
   ⟨(some 91), .pick (.t 86) (.t 90) (.c (.bool false)), none⟩,
   ⟨(some 92), .mv (.t 91), none⟩,
   ⟨(some 93), .mv (.t 18), (some (92, true))⟩,
   ⟨(some 94), .mv (.t 93), (some (92, true))⟩,
   ⟨(some 95), .mv (.t 16), (some (94, false))⟩,
   ⟨(some 96), .bin .eql (.t 95) (.c (.int .i64 3)), (some (94, false))⟩,
   ⟨(some 97), .pick (.t 94) (.c (.bool true)) (.t 96), (some (92, true))⟩,
   ⟨(some 98), .pick (.t 92) (.t 97) (.c (.bool false)), none⟩,
   ⟨(some 6), .mv (.t 98), none⟩] [6])
 .ret))))))))))⟩

def h_bandboxlaw12_PadBack : Hint := [(0, [0, 1], []), (1, [0, 1, 16], []), (2, [4], []), (3, [0, 1, 24], []), (4, [4], []), (5, [0, 1, 5, 6], []), (6, [0, 1, 5, 6, 7, 8], []), (7, [0, 1, 5, 6, 7, 8, 9, 10], []), (8, [0, 1, 5, 6, 7, 8, 9, 10, 11], []), (9, [0, 1, 5, 6, 7, 8, 9, 10, 11, 13], []), (10, [4], [])]
def ir_bandboxlaw12_PadBack : AFunc := ⟨2, 99, [.tmp 4],
 (.seq (.ops [
   ⟨(some 4), .mv (.c (.bool false)), none⟩] [0, 1])
 (.seq (.seq (.ops [
   ⟨(some 15), .call 13 [], none⟩,
   ⟨(some 16), .un .not (.t 15), none⟩] [0, 1, 16])
 (.cond (.t 16)
  (.seq (.ops [
    ⟨(some 4), .mv (.c (.bool false)), none⟩] [4])
  .ret)
  .skip))
 (.seq (.seq (.ops [
   ⟨(some 17), .mv (.t 0), none⟩,
   ⟨(some 18), .lenS (.t 17), none⟩,
   ⟨(some 19), .bin .gtr (.t 18) (.c (.int .i64 600)), none⟩,
   ⟨(some 20), .mv (.t 19), none⟩,
   ⟨(some 21), .mv (.t 1), (some (20, false))⟩,
   ⟨(some 22), .lenS (.t 21), (some (20, false))⟩,
   ⟨(some 23), .bin .gtr (.t 22) (.c (.int .i64 600)), (some (20, false))⟩,
   ⟨(some 24), .pick (.t 20) (.c (.bool true)) (.t 23), none⟩] [0, 1, 24])
 (.cond (.t 24)
  (.seq (.ops [
    ⟨(some 4), .mv (.c (.bool true)), none⟩] [4])
  .ret)
  .skip))
 (.seq (.ops [
   ⟨(some 26), .mv (.t 0), none⟩,
   ⟨(some 27), .call 152 [.t 26], none⟩,
   ⟨(some 25), .mv (.t 27), none⟩,
   ⟨(some 28), .ext (.t 25) 0, none⟩,
   ⟨(some 29), .ext (.t 25) 1, none⟩,
   ⟨(some 5), .mv (.t 28), none⟩,
   ⟨(some 6), .mv (.t 29), none⟩] [0, 1, 5, 6])
 (.seq (.ops [
   ⟨(some 31), .mv (.t 1), none⟩,
   ⟨(some 32), .call 152 [.t 31], none⟩,
   ⟨(some 30), .mv (.t 32), none⟩,
   ⟨(some 33), .ext (.t 30) 0, none⟩,
   ⟨(some 34), .ext (.t 30) 1, none⟩,
   ⟨(some 7), .mv (.t 33), none⟩,
   ⟨(some 8), .mv (.t 34), none⟩] [0, 1, 5, 6, 7, 8])
 (.seq (.ops [
   ⟨(some 36), .mv (.t 5), none⟩,
   ⟨(some 37), .call 153 [.t 36], none⟩,
   ⟨(some 35), .mv (.t 37), none⟩,
   ⟨(some 38), .ext (.t 35) 0, none⟩,
   ⟨(some 39), .ext (.t 35) 1, none⟩,
   ⟨(some 9), .mv (.t 38), none⟩,
   ⟨(some 10), .mv (.t 39), none⟩] [0, 1, 5, 6, 7, 8, 9, 10])
 (.seq (.ops [
   ⟨(some 41), .mv (.t 0), none⟩,
   ⟨(some 42), .lenS (.t 41), none⟩,
   ⟨(some 43), .call 14 [.t 42], none⟩,
   ⟨(some 40), .mv (.t 43), none⟩,
   ⟨(some 44), .ext (.t 40) 0, none⟩,
   ⟨(some 45), .ext (.t 40) 1, none⟩,
   ⟨(some 11), .mv (.t 44), none⟩,
   ⟨(some 12), .mv (.t 45), none⟩] [0, 1, 5, 6, 7, 8, 9, 10, 11])
 (.seq (.ops [
   ⟨(some 47), .mv (.t 1), none⟩,
   ⟨(some 48), .lenS (.t 47), none⟩,
   ⟨(some 49), .call 14 [.t 48], none⟩,
   ⟨(some 46), .mv (.t 49), none⟩,
   ⟨(some 50), .ext (.t 46) 0, none⟩,
   ⟨(some 51), .ext (.t 46) 1, none⟩,
   ⟨(some 13), .mv (.t 50), none⟩,
   ⟨(some 14), .mv (.t 51), none⟩] [0, 1, 5, 6, 7, 8, 9, 10, 11, 13])
 (.seq (.ops [
   ⟨(some 52), .mv (.t 6), none⟩,
   ⟨(some 53), .bin .eql (.t 52) (.c (.int .i64 0)), none⟩,
   ⟨(some 54), .mv (.t 53), none⟩,
   ⟨(some 55), .mv (.t 8), (some (54, true))⟩,
   ⟨(some 56), .bin .eql (.t 55) (.c (.int .i64 0)), (some (54, true))⟩,
   ⟨(some 57), .pick (.t 54) (.t 56) (.c (.bool false)), none⟩,
   ⟨(some 58), .mv (.t 57), none⟩,
   ⟨(some 59), .mv (.t 10), (some (58, true))⟩,
   ⟨(some 60), .bin .eql (.t 59) (.c (.int .i64 0)), (some (58, true))⟩,
   ⟨(some 61), .pick (.t 58) (.t 60) (.c (.bool false)), none⟩,
   ⟨(some 62), .mv (.t 61), none⟩,
   ⟨(some 63), .mv (.t 9), (some (62, true))⟩,
   ⟨(some 64), .strOf (.t 63), (some (62, true))⟩,
   ⟨(some 65), .mv (.t 0), (some (62, true))⟩,
   ⟨(some 66), .strOf (.t 65), (some (62, true))⟩,
   ⟨(some 67), .bin .eql (.t 64) (.t 66), (some (62, true))⟩,
   ⟨(some 68), .pick (.t 62) (.t 67) (.c (.bool false)), none⟩,
   ⟨(some 69), .mv (.t 68), none⟩,
   ⟨(some 70), .mv (.t 5), (some (69, true))⟩,
   ⟨(some 71), .lenS (.t 70), (some (69, true))⟩,
   ⟨(some 72), .mv (.t 11), (some (69, true))⟩,
   ⟨(some 73), .bin .eql (.t 71) (.t 72), (some (69, true))⟩,
   ⟨(some 74), .pick (.t 69) (.t 73) (.c (.bool false)), none⟩,
   ⟨(some 75), .mv (.t 74), none⟩,
   ⟨(some 76), .mv (.t 5), (some (75, true))⟩,
   ⟨(some 77), .lenS (.t 76), (some (75, true))⟩,
   ⟨(some 78), .mv (.t 7), (some (75, true))⟩,
   ⟨(some 79), .lenS (.t 78), (some (75, true))⟩,
   ⟨(some 80), .bin .eql (.t 77) (.t 79), (some (75, true))⟩,
   ⟨(some 81), .mv (.t 11), (some (75, true))⟩,
   ⟨(some 82), .mv (.t 13), (some (75, true))⟩,
   ⟨(some 83), .bin .eql (.t 81) (.t 82), (some (75, true))⟩,
   ⟨(some 84), .eqv .bool false (.t 80) (.t 83), (some (75, true))⟩,
   ⟨(some 85), .pick (.t 75) (.t 84) (.c (.bool false)), none⟩,
   ⟨(some 86), .mv (.t 85), none⟩,
   ⟨(some 87), .mv (.t 5), (some (86, true))⟩,
   ⟨(some 88), .strOf (.t 87), (some (86, true))⟩,
   ⟨(some 89), .mv (.t 7), (some (86, true))⟩,
   ⟨(some 90), .strOf (.t 89), (some (86, true))⟩,
   ⟨(some 91), .bin .eql (.t 88) (.t 90), (some (86, true))⟩,
   ⟨(some 92), .mv (.t 0), (some (86, true))⟩,
   ⟨(some 93), .strOf (.t 92), (some (86, true))⟩,
   ⟨(some 94), .mv (.t 1), (some (86, true))⟩,
   ⟨(some 95), .strOf (.t 94), (some (86, true))⟩,
   ⟨(some 96), .bin .eql (.t 93) (.t 95), (some (86, true))⟩,
   ⟨(some 97), .eqv .bool false (.t 91) (.t 96), (some (86, true))⟩,
   ⟨(some 98), .pick (.t 86) (.t 97) (.c (.bool false)), none⟩,
   ⟨(some 4), .mv (.t 98), none⟩] [4])
 .ret)))))))))⟩

def h_pad_Pad : Hint := [(0, [0], []), (1, [0, 4, 5], []), (2, [0, 4, 5, 14], []), (3, [2, 3], []), (4, [0, 6], []), (5, [0, 6], []), (6, [6], []), (7, [2, 3], [])]
def ir_pad_Pad : AFunc := ⟨1, 26, [.tmp 2, .tmp 3],
 (.seq (.ops [
   ⟨(some 2), .mv (.c (.slice none 0 0)), none⟩,
   ⟨(some 3), .mv (.c (.int .i64 0)), none⟩] [0])
 (.seq (.ops [
   ⟨(some 8), .mv (.t 0), none⟩,
   ⟨(some 9), .lenS (.t 8), none⟩,
   ⟨(some 10), .call 14 [.t 9], none⟩,
   ⟨(some 7), .mv (.t 10), none⟩,
   ⟨(some 11), .ext (.t 7) 0, none⟩,
   ⟨(some 12), .ext (.t 7) 1, none⟩,
   ⟨(some 4), .mv (.t 11), none⟩,
   ⟨(some 5), .mv (.t 12), none⟩] [0, 4, 5])
 (.seq (.seq (.ops [
   ⟨(some 13), .mv (.t 5), none⟩,
   ⟨(some 14), .bin .neq (.t 13) (.c (.int .i64 0)), none⟩] [0, 4, 5, 14])
 (.cond (.t 14)
  (.seq (.ops [
    ⟨(some 15), .mv (.t 5), none⟩,
    ⟨(some 2), .mv (.c (.slice none 0 0)), none⟩,
    ⟨(some 3), .mv (.t 15), none⟩] [2, 3])
  .ret)
  .skip))
 (.seq (.ops [
   ⟨(some 16), .mv (.t 4), none⟩,
   ⟨(some 17), .mslice 1 ([.int .u8 0]) (.t 16) (.t 16), none⟩,
   ⟨(some 6), .mv (.t 17), none⟩] [0, 6])
 (.seq (.ops [
   ⟨(some 18), .mv (.t 6), none⟩,
   ⟨(some 19), .mv (.t 0), none⟩,
   ⟨(some 20), .copy 1 (.t 18) (.t 19), none⟩] [0, 6])
 (.seq (.ops [
   ⟨(some 21), .mv (.t 6), none⟩,
   ⟨(some 22), .mv (.t 0), none⟩,
   ⟨(some 23), .lenS (.t 22), none⟩,
   ⟨(some 24), .iaddrS 1 (.t 21) (.t 23), none⟩,
   ⟨none, .store 1 (.t 24) (.c (.int .u8 128)), none⟩] [6])
 (.seq (.ops [
   ⟨(some 25), .mv (.t 6), none⟩,
   ⟨(some 2), .mv (.t 25), none⟩,
   ⟨(some 3), .mv (.c (.int .i64 0)), none⟩] [2, 3])
 .ret)))))))⟩

def h_pad_Unpad : Hint := [(0, [0], []), (1, [0, 4], []), (2, [0, 4, 20], []), (3, [2, 3], []), (4, [0, 4], []), (5, [0, 4, 5, 6], []), (6, [4, 39], []), (7, [2, 3], []), (8, [2, 3], [])]
def ir_pad_Unpad : AFunc := ⟨1, 42, [.tmp 2, .tmp 3],
 (.seq (.ops [
   ⟨(some 2), .mv (.c (.slice none 0 0)), none⟩,
   ⟨(some 3), .mv (.c (.int .i64 0)), none⟩] [0])
 (.seq (.ops [
   ⟨(some 7), .mv (.t 0), none⟩,
   ⟨(some 8), .call 157 [.t 7, .c (.string ⟨#[0]⟩)], none⟩,
   ⟨(some 4), .mv (.t 8), none⟩] [0, 4])
 (.seq (.seq (.ops [
   ⟨(some 9), .mv (.t 4), none⟩,
   ⟨(some 10), .lenS (.t 9), none⟩,
   ⟨(some 11), .bin .eql (.t 10) (.c (.int .i64 0)), none⟩,
   ⟨(some 12), .mv (.t 11), none⟩,
   ⟨(some 13), .mv (.t 4), (some (12, false))⟩,
   ⟨(some 14), .mv (.t 4), (some (12, false))⟩,
   ⟨(some 15), .lenS (.t 14), (some (12, false))⟩,
   ⟨(some 16), .bin .sub (.t 15) (.c (.int .i64 1)), (some (12, false))⟩,
   ⟨(some 17), .iaddrS 1 (.t 13) (.t 16), (some (12, false))⟩,
   ⟨(some 18), .load none (.t 17), (some (12, false))⟩,
   ⟨(some 19), .bin .neq (.t 18) (.c (.int .u8 128)), (some (12, false))⟩,
   ⟨(some 20), .pick (.t 12) (.c (.bool true)) (.t 19), none⟩] [0, 4, 20])
 (.cond (.t 20)
  (.seq (.ops [
    ⟨(some 2), .mv (.c (.slice none 0 0)), none⟩,
    ⟨(some 3), .mv (.c (.int .i64 3)), none⟩] [2, 3])
  .ret)
  .skip))
 (.seq (.ops [
   ⟨(some 21), .mv (.t 4), none⟩,
   ⟨(some 22), .mv (.t 4), none⟩,
   ⟨(some 23), .lenS (.t 22), none⟩,
   ⟨(some 24), .bin .sub (.t 23) (.c (.int .i64 1)), none⟩,
   ⟨(some 25), .slSl 1 (.t 21) none (some (.t 24)) none, none⟩,
   ⟨(some 4), .mv (.t 25), none⟩] [0, 4])
 (.seq (.seq (.ops [
   ⟨(some 27), .mv (.t 4), none⟩,
   ⟨(some 28), .lenS (.t 27), none⟩,
   ⟨(some 29), .call 14 [.t 28], none⟩,
   ⟨(some 26), .mv (.t 29), none⟩,
   ⟨(some 30), .ext (.t 26) 0, none⟩,
   ⟨(some 31), .ext (.t 26) 1, none⟩,
   ⟨(some 5), .mv (.t 30), none⟩,
   ⟨(some 6), .mv (.t 31), none⟩] [0, 4, 5, 6])
 (.seq (.ops [
   ⟨(some 32), .mv (.t 6), none⟩,
   ⟨(some 33), .bin .neq (.t 32) (.c (.int .i64 0)), none⟩,
   ⟨(some 34), .mv (.t 33), none⟩,
   ⟨(some 35), .mv (.t 5), (some (34, false))⟩,
   ⟨(some 36), .mv (.t 0), (some (34, false))⟩,
   ⟨(some 37), .lenS (.t 36), (some (34, false))⟩,
   ⟨(some 38), .bin .neq (.t 35) (.t 37), (some (34, false))⟩,
   ⟨(some 39), .pick (.t 34) (.c (.bool true)) (.t 38), none⟩] [4, 39])
 (.cond (.t 39)
  (.seq (.ops [
    ⟨(some 2), .mv (.c (.slice none 0 0)), none⟩,
    ⟨(some 3), .mv (.c (.int .i64 3)), none⟩] [2, 3])
  .ret)
  .skip)))
 (.seq (.ops [
   ⟨(some 40), .mv (.t 4), none⟩,
   ⟨(some 41), .call 158 [.t 40], none⟩,
   ⟨(some 2), .mv (.t 41), none⟩,
   ⟨(some 3), .mv (.c (.int .i64 0)), none⟩] [2, 3])
 .ret))))))⟩

def h_bandboxref11_Bucket : Hint := [(0, [0], []), (1, [0, 6], []), (2, [2, 3], []), (3, [0, 4], []), (4, [0, 4, 8], []), (5, [0, 4], []), (6, [0, 4, 13], []), (7, [2, 3], []), (8, [2, 3], [])]
def ir_bandboxref11_Bucket : AFunc := ⟨1, 15, [.tmp 2, .tmp 3],
 (.seq (.ops [
   ⟨(some 2), .mv (.c (.int .i64 0)), none⟩,
   ⟨(some 3), .mv (.c (.int .i64 0)), none⟩] [0])
 (.seq (.seq (.ops [
   ⟨(some 5), .mv (.t 0), none⟩,
   ⟨(some 6), .bin .lss (.t 5) (.c (.int .i64 0)), none⟩] [0, 6])
 (.cond (.t 6)
  (.seq (.ops [
    ⟨(some 2), .mv (.c (.int .i64 0)), none⟩,
    ⟨(some 3), .mv (.c (.int .i64 1)), none⟩] [2, 3])
  .ret)
  .skip))
 (.seq (.seq (.ops [
   ⟨(some 4), .mv (.c (.int .i64 64)), none⟩] [0, 4])
 (.block 0
  (.loop
   (.seq (.seq (.ops [
     ⟨(some 7), .mv (.t 4), none⟩,
     ⟨(some 8), .bin .leq (.t 7) (.c (.int .i64 65536)), none⟩] [0, 4, 8])
   (.cond (.t 8)
    .skip
    (.exit 0)))
   (.seq (.block 1
    (.seq (.ops [
      ⟨(some 11), .mv (.t 0), none⟩,
      ⟨(some 12), .mv (.t 4), none⟩,
      ⟨(some 13), .bin .lss (.t 11) (.t 12), none⟩] [0, 4, 13])
    (.cond (.t 13)
     (.seq (.ops [
       ⟨(some 14), .mv (.t 4), none⟩,
       ⟨(some 2), .mv (.t 14), none⟩,
       ⟨(some 3), .mv (.c (.int .i64 0)), none⟩] [2, 3])
     .ret)
     .skip)))
   (.ops [
     ⟨(some 9), .mv (.t 4), none⟩,
     ⟨(some 10), .bin .mul (.c (.int .i64 2)) (.t 9), none⟩,
     ⟨(some 4), .mv (.t 10), none⟩] [0, 4]))))))
 (.seq (.ops [
   ⟨(some 2), .mv (.c (.int .i64 0)), none⟩,
   ⟨(some 3), .mv (.c (.int .i64 2)), none⟩] [2, 3])
 .ret))))⟩

def h_bandboxref11_Pad : Hint := [(0, [0], []), (1, [0, 4, 5], []), (2, [0, 4, 5, 14], []), (3, [2, 3], []), (4, [0, 6], []), (5, [0, 6], []), (6, [6], []), (7, [2, 3], [])]
def ir_bandboxref11_Pad : AFunc := ⟨1, 26, [.tmp 2, .tmp 3],
 (.seq (.ops [
   ⟨(some 2), .mv (.c (.slice none 0 0)), none⟩,
   ⟨(some 3), .mv (.c (.int .i64 0)), none⟩] [0])
 (.seq (.ops [
   ⟨(some 8), .mv (.t 0), none⟩,
   ⟨(some 9), .lenS (.t 8), none⟩,
   ⟨(some 10), .call 154 [.t 9], none⟩,
   ⟨(some 7), .mv (.t 10), none⟩,
   ⟨(some 11), .ext (.t 7) 0, none⟩,
   ⟨(some 12), .ext (.t 7) 1, none⟩,
   ⟨(some 4), .mv (.t 11), none⟩,
   ⟨(some 5), .mv (.t 12), none⟩] [0, 4, 5])
 (.seq (.seq (.ops [
   ⟨(some 13), .mv (.t 5), none⟩,
   ⟨(some 14), .bin .neq (.t 13) (.c (.int .i64 0)), none⟩] [0, 4, 5, 14])
 (.cond (.t 14)
  (.seq (.ops [
    ⟨(some 15), .mv (.t 5), none⟩,
    ⟨(some 2), .mv (.c (.slice none 0 0)), none⟩,
    ⟨(some 3), .mv (.t 15), none⟩] [2, 3])
  .ret)
  .skip))
 (.seq (.ops [
   ⟨(some 16), .mv (.t 4), none⟩,
   ⟨(some 17), .mslice 1 ([.int .u8 0]) (.t 16) (.t 16), none⟩,
   ⟨(some 6), .mv (.t 17), none⟩] [0, 6])
 (.seq (.ops [
   ⟨(some 18), .mv (.t 6), none⟩,
   ⟨(some 19), .mv (.t 0), none⟩,
   ⟨(some 20), .copy 1 (.t 18) (.t 19), none⟩] [0, 6])
 (.seq (.ops [
   ⟨(some 21), .mv (.t 6), none⟩,
   ⟨(some 22), .mv (.t 0), none⟩,
   ⟨(some 23), .lenS (.t 22), none⟩,
   ⟨(some 24), .iaddrS 1 (.t 21) (.t 23), none⟩,
   ⟨none, .store 1 (.t 24) (.c (.int .u8 128)), none⟩] [6])
 (.seq (.ops [
   ⟨(some 25), .mv (.t 6), none⟩,
   ⟨(some 2), .mv (.t 25), none⟩,
   ⟨(some 3), .mv (.c (.int .i64 0)), none⟩] [2, 3])
 .ret)))))))⟩

def h_bandboxref11_Unpad : Hint := [(0, [0], []), (1, [0, 4], []), (2, [0, 4, 18], []), (3, [0, 4], []), (4, [0, 4, 22], []), (5, [2, 3], []), (6, [0, 4, 5, 6], []), (7, [0, 4, 39], []), (8, [2, 3], []), (9, [2, 3], [])]
def ir_bandboxref11_Unpad : AFunc := ⟨1, 44, [.tmp 2, .tmp 3],
 (.seq (.ops [
   ⟨(some 2), .mv (.c (.slice none 0 0)), none⟩,
   ⟨(some 3), .mv (.c (.bool false)), none⟩] [0])
 (.seq (.ops [
   ⟨(some 7), .mv (.t 0), none⟩,
   ⟨(some 8), .lenS (.t 7), none⟩,
   ⟨(some 4), .mv (.t 8), none⟩] [0, 4])
 (.seq (.block 0
  (.loop
   (.seq (.seq (.ops [
     ⟨(some 9), .mv (.t 4), none⟩,
     ⟨(some 10), .bin .gtr (.t 9) (.c (.int .i64 0)), none⟩,
     ⟨(some 11), .mv (.t 10), none⟩,
     ⟨(some 12), .mv (.t 0), (some (11, true))⟩,
     ⟨(some 13), .mv (.t 4), (some (11, true))⟩,
     ⟨(some 14), .bin .sub (.t 13) (.c (.int .i64 1)), (some (11, true))⟩,
     ⟨(some 15), .iaddrS 1 (.t 12) (.t 14), (some (11, true))⟩,
     ⟨(some 16), .load none (.t 15), (some (11, true))⟩,
     ⟨(some 17), .bin .eql (.t 16) (.c (.int .u8 0)), (some (11, true))⟩,
     ⟨(some 18), .pick (.t 11) (.t 17) (.c (.bool false)), none⟩] [0, 4, 18])
   (.cond (.t 18)
    .skip
    (.exit 0)))
   (.block 1
    (.ops [
      ⟨(some 19), .mv (.t 4), none⟩,
      ⟨(some 20), .bin .sub (.t 19) (.c (.int .i64 1)), none⟩,
      ⟨(some 4), .mv (.t 20), none⟩] [0, 4])))))
 (.seq (.seq (.ops [
   ⟨(some 21), .mv (.t 4), none⟩,
   ⟨(some 22), .bin .eql (.t 21) (.c (.int .i64 0)), none⟩] [0, 4, 22])
 (.cond (.t 22)
  (.seq (.ops [
    ⟨(some 2), .mv (.c (.slice none 0 0)), none⟩,
    ⟨(some 3), .mv (.c (.bool false)), none⟩] [2, 3])
  .ret)
  .skip))
 (.seq (.ops [
   ⟨(some 24), .mv (.t 0), none⟩,
   ⟨(some 25), .mv (.t 4), none⟩,
   ⟨(some 26), .bin .sub (.t 25) (.c (.int .i64 1)), none⟩,
   ⟨(some 27), .slSl 1 (.t 24) none (some (.t 26)) none, none⟩,
   ⟨(some 28), .call 155 [.t 27], none⟩,
   ⟨(some 23), .mv (.t 28), none⟩,
   ⟨(some 29), .ext (.t 23) 0, none⟩,
   ⟨(some 30), .ext (.t 23) 1, none⟩,
   ⟨(some 5), .mv (.t 29), none⟩,
   ⟨(some 6), .mv (.t 30), none⟩] [0, 4, 5, 6])
 (.seq (.seq (.ops [
   ⟨(some 31), .mv (.t 6), none⟩,
   ⟨(some 32), .bin .neq (.t 31) (.c (.int .i64 0)), none⟩,
   ⟨(some 33), .mv (.t 32), none⟩,
   ⟨(some 34), .mv (.t 5), (some (33, false))⟩,
   ⟨(some 35), .strOf (.t 34), (some (33, false))⟩,
   ⟨(some 36), .mv (.t 0), (some (33, false))⟩,
   ⟨(some 37), .strOf (.t 36), (some (33, false))⟩,
   ⟨(some 38), .bin .neq (.t 35) (.t 37), (some (33, false))⟩,
   ⟨(some 39), .pick (.t 33) (.c (.bool true)) (.t 38), none⟩] [0, 4, 39])
 (.cond (.t 39)
  (.seq (.ops [
    ⟨(some 2), .mv (.c (.slice none 0 0)), none⟩,
    ⟨(some 3), .mv (.c (.bool false)), none⟩] [2, 3])
  .ret)
  .skip))
 (.seq (.ops [
   ⟨(some 40), .mv (.t 0), none⟩,
   ⟨(some 41), .mv (.t 4), none⟩,
   ⟨(some 42), .bin .sub (.t 41) (.c (.int .i64 1)), none⟩,
   ⟨(some 43), .slSl 1 (.t 40) none (some (.t 42)) none, none⟩,
   ⟨(some 2), .mv (.t 43), none⟩,
   ⟨(some 3), .mv (.c (.bool true)), none⟩] [2, 3])
 .ret)))))))⟩

def h_bytes_TrimRight : Hint := [(0, [0, 1], []), (1, [0, 1, 13], []), (2, [4], []), (3, [0, 1, 22], []), (4, [4], []), (5, [0, 1, 5, 6], []), (6, [0, 1, 5, 32], []), (7, [4], []), (8, [4], [])]
def ir_bytes_TrimRight : AFunc := ⟨2, 38, [.tmp 4],
 (.seq (.ops [
   ⟨(some 4), .mv (.c (.slice none 0 0)), none⟩] [0, 1])
 (.seq (.seq (.ops [
   ⟨(some 7), .mv (.t 0), none⟩,
   ⟨(some 8), .lenS (.t 7), none⟩,
   ⟨(some 9), .bin .eql (.t 8) (.c (.int .i64 0)), none⟩,
   ⟨(some 10), .mv (.t 9), none⟩,
   ⟨(some 11), .mv (.t 1), (some (10, false))⟩,
   ⟨(some 12), .bin .eql (.t 11) (.c (.string .empty)), (some (10, false))⟩,
   ⟨(some 13), .pick (.t 10) (.c (.bool true)) (.t 12), none⟩] [0, 1, 13])
 (.cond (.t 13)
  (.seq (.ops [
    ⟨(some 14), .mv (.t 0), none⟩,
    ⟨(some 4), .mv (.t 14), none⟩] [4])
  .ret)
  .skip))
 (.seq (.seq (.ops [
   ⟨(some 15), .mv (.t 1), none⟩,
   ⟨(some 16), .lenStr (.t 15), none⟩,
   ⟨(some 17), .bin .eql (.t 16) (.c (.int .i64 1)), none⟩,
   ⟨(some 18), .mv (.t 17), none⟩,
   ⟨(some 19), .mv (.t 1), (some (18, true))⟩,
   ⟨(some 20), .idxS (.t 19) (.c (.int .i64 0)), (some (18, true))⟩,
   ⟨(some 21), .bin .lss (.t 20) (.c (.int .u8 128)), (some (18, true))⟩,
   ⟨(some 22), .pick (.t 18) (.t 21) (.c (.bool false)), none⟩] [0, 1, 22])
 (.cond (.t 22)
  (.seq (.ops [
    ⟨(some 23), .mv (.t 0), none⟩,
    ⟨(some 24), .mv (.t 1), none⟩,
    ⟨(some 25), .idxS (.t 24) (.c (.int .i64 0)), none⟩,
    ⟨(some 26), .call 159 [.t 23, .t 25], none⟩,
    ⟨(some 4), .mv (.t 26), none⟩] [4])
  .ret)
  .skip))
 (.seq (.seq (.ops [
   ⟨(some 28), .mv (.t 1), none⟩,
   ⟨(some 29), .call 160 [.t 28], none⟩,
   ⟨(some 27), .mv (.t 29), none⟩,
   ⟨(some 30), .ext (.t 27) 0, none⟩,
   ⟨(some 31), .ext (.t 27) 1, none⟩,
   ⟨(some 5), .alloc (List.replicate 256 (.bool false)), none⟩,
   ⟨none, .store 256 (.t 5) (.t 30), none⟩,
   ⟨(some 6), .mv (.t 31), none⟩] [0, 1, 5, 6])
 (.seq (.ops [
   ⟨(some 32), .mv (.t 6), none⟩] [0, 1, 5, 32])
 (.cond (.t 32)
  (.seq (.ops [
    ⟨(some 33), .mv (.t 0), none⟩,
    ⟨(some 34), .call 161 [.t 33, .t 5], none⟩,
    ⟨(some 4), .mv (.t 34), none⟩] [4])
  .ret)
  .skip)))
 (.seq (.ops [
   ⟨(some 35), .mv (.t 0), none⟩,
   ⟨(some 36), .mv (.t 1), none⟩,
   ⟨(some 37), .call 162 [.t 35, .t 36], none⟩,
   ⟨(some 4), .mv (.t 37), none⟩] [4])
 .ret)))))⟩

def h_bytes_Clone : Hint := [(0, [0], []), (1, [0, 4], []), (2, [2], []), (3, [2], [])]
def ir_bytes_Clone : AFunc := ⟨1, 8, [.tmp 2],
 (.seq (.ops [
   ⟨(some 2), .mv (.c (.slice none 0 0)), none⟩] [0])
 (.seq (.seq (.ops [
   ⟨(some 3), .mv (.t 0), none⟩,
   ⟨(some 4), .eqv .slice false (.t 3) (.c (.slice none 0 0)), none⟩] [0, 4])
 (.cond (.t 4)
  (.seq (.ops [
    ⟨(some 2), .mv (.c (.slice none 0 0)), none⟩] [2])
  .ret)
  .skip))
 (.seq (.ops [
   ⟨(some 5), .bslice 0 1 ([.int .u8 0]) [], none⟩,
   ⟨(some 6), .mv (.t 0), none⟩,
   ⟨(some 7), .append 1 1 (.t 5) (.t 6), none⟩,
   ⟨(some 2), .mv (.t 7), none⟩] [2])
 .ret)))⟩

def h_bytes_trimRightByte : Hint := [(0, [0, 1], []), (1, [0, 1, 17], []), (2, [0, 1], []), (3, [4], [])]
def ir_bytes_trimRightByte : AFunc := ⟨2, 24, [.tmp 4],
 (.seq (.ops [
   ⟨(some 4), .mv (.c (.slice none 0 0)), none⟩] [0, 1])
 (.seq (.block 0
  (.loop
   (.seq (.seq (.ops [
     ⟨(some 5), .mv (.t 0), none⟩,
     ⟨(some 6), .lenS (.t 5), none⟩,
     ⟨(some 7), .bin .gtr (.t 6) (.c (.int .i64 0)), none⟩,
     ⟨(some 8), .mv (.t 7), none⟩,
     ⟨(some 9), .mv (.t 0), (some (8, true))⟩,
     ⟨(some 10), .mv (.t 0), (some (8, true))⟩,
     ⟨(some 11), .lenS (.t 10), (some (8, true))⟩,
     ⟨(some 12), .bin .sub (.t 11) (.c (.int .i64 1)), (some (8, true))⟩,
     ⟨(some 13), .iaddrS 1 (.t 9) (.t 12), (some (8, true))⟩,
     ⟨(some 14), .load none (.t 13), (some (8, true))⟩,
     ⟨(some 15), .mv (.t 1), (some (8, true))⟩,
     ⟨(some 16), .bin .eql (.t 14) (.t 15), (some (8, true))⟩,
     ⟨(some 17), .pick (.t 8) (.t 16) (.c (.bool false)), none⟩] [0, 1, 17])
   (.cond (.t 17)
    .skip
    (.exit 0)))
   (.block 1
    (.ops [
      ⟨(some 18), .mv (.t 0), none⟩,
      ⟨(some 19), .mv (.t 0), none⟩,
      ⟨(some 20), .lenS (.t 19), none⟩,
      ⟨(some 21), .bin .sub (.t 20) (.c (.int .i64 1)), none⟩,
      ⟨(some 22), .slSl 1 (.t 18) none (some (.t 21)) none, none⟩,
      ⟨(some 0), .mv (.t 22), none⟩] [0, 1])))))
 (.seq (.ops [
   ⟨(some 23), .mv (.t 0), none⟩,
   ⟨(some 4), .mv (.t 23), none⟩] [4])
 .ret)))⟩

def h_bytes_makeASCIISet : Hint := [(0, [0, 2], []), (1, [0, 2, 4], []), (2, [0, 2, 4, 9], []), (3, [0, 2, 4], []), (4, [0, 2, 4, 5], []), (5, [0, 2, 4, 5, 16], []), (6, [2, 3], []), (7, [0, 2, 4], []), (8, [2, 3], [])]
def ir_bytes_makeASCIISet : AFunc := ⟨1, 21, [.cell 2 (some 256), .tmp 3],
 (.seq (.ops [
   ⟨(some 2), .alloc (List.replicate 256 (.bool false)), none⟩,
   ⟨(some 3), .mv (.c (.bool false)), none⟩] [0, 2])
 (.seq (.seq (.ops [
   ⟨(some 4), .mv (.c (.int .i64 0)), none⟩] [0, 2, 4])
 (.block 0
  (.loop
   (.seq (.seq (.ops [
     ⟨(some 6), .mv (.t 4), none⟩,
     ⟨(some 7), .mv (.t 0), none⟩,
     ⟨(some 8), .lenStr (.t 7), none⟩,
     ⟨(some 9), .bin .lss (.t 6) (.t 8), none⟩] [0, 2, 4, 9])
   (.cond (.t 9)
    .skip
    (.exit 0)))
   (.seq (.block 1
    (.seq (.ops [
      ⟨(some 12), .mv (.t 0), none⟩,
      ⟨(some 13), .mv (.t 4), none⟩,
      ⟨(some 14), .idxS (.t 12) (.t 13), none⟩,
      ⟨(some 5), .mv (.t 14), none⟩] [0, 2, 4, 5])
    (.seq (.seq (.ops [
      ⟨(some 15), .mv (.t 5), none⟩,
      ⟨(some 16), .bin .geq (.t 15) (.c (.int .u8 128)), none⟩] [0, 2, 4, 5, 16])
    (.cond (.t 16)
     (.seq (.ops [
       ⟨(some 17), .load (some 256) (.t 2), none⟩,
       ⟨none, .store 256 (.t 2) (.t 17), none⟩,
       ⟨(some 3), .mv (.c (.bool false)), none⟩] [2, 3])
     .ret)
     .skip))
    (.ops [
      ⟨(some 18), .mv (.t 5), none⟩,
      ⟨(some 19), .iaddrA 256 1 (.t 2) (.t 18), none⟩,
      ⟨none, .store 1 (.t 19) (.c (.bool true)), none⟩] [0, 2, 4]))))
   (.ops [
     ⟨(some 10), .mv (.t 4), none⟩,
     ⟨(some 11), .bin .add (.t 10) (.c (.int .i64 1)), none⟩,
     ⟨(some 4), .mv (.t 11), none⟩] [0, 2, 4]))))))
 (.seq (.ops [
   ⟨(some 20), .load (some 256) (.t 2), none⟩,
   ⟨none, .store 256 (.t 2) (.t 20), none⟩,
   ⟨(some 3), .mv (.c (.bool true)), none⟩] [2, 3])
 .ret)))⟩

def h_bytes_trimRightASCII : Hint := [(0, [0, 1], []), (1, [0, 1, 7], []), (2, [0, 1, 16], []), (3, [0, 1], []), (4, [4], [])]
def ir_bytes_trimRightASCII : AFunc := ⟨2, 23, [.tmp 4],
 (.seq (.ops [
   ⟨(some 4), .mv (.c (.slice none 0 0)), none⟩] [0, 1])
 (.seq (.block 0
  (.loop
   (.seq (.seq (.ops [
     ⟨(some 5), .mv (.t 0), none⟩,
     ⟨(some 6), .lenS (.t 5), none⟩,
     ⟨(some 7), .bin .gtr (.t 6) (.c (.int .i64 0)), none⟩] [0, 1, 7])
   (.cond (.t 7)
    .skip
    (.exit 0)))
   (.block 1
    (.seq (.seq (.ops [
      ⟨(some 8), .mv (.t 1), none⟩,
      ⟨(some 9), .mv (.t 0), none⟩,
      ⟨(some 10), .mv (.t 0), none⟩,
      ⟨(some 11), .lenS (.t 10), none⟩,
      ⟨(some 12), .bin .sub (.t 11) (.c (.int .i64 1)), none⟩,
      ⟨(some 13), .iaddrS 1 (.t 9) (.t 12), none⟩,
      ⟨(some 14), .load none (.t 13), none⟩,
      ⟨(some 15), .call 163 [.t 8, .t 14], none⟩,
      ⟨(some 16), .un .not (.t 15), none⟩] [0, 1, 16])
    (.cond (.t 16)
     (.exit 0)
     .skip))
    (.ops [
      ⟨(some 17), .mv (.t 0), none⟩,
      ⟨(some 18), .mv (.t 0), none⟩,
      ⟨(some 19), .lenS (.t 18), none⟩,
      ⟨(some 20), .bin .sub (.t 19) (.c (.int .i64 1)), none⟩,
      ⟨(some 21), .slSl 1 (.t 17) none (some (.t 20)) none, none⟩,
      ⟨(some 0), .mv (.t 21), none⟩] [0, 1]))))))
 (.seq (.ops [
   ⟨(some 22), .mv (.t 0), none⟩,
   ⟨(some 4), .mv (.t 22), none⟩] [4])
 .ret)))⟩

def h_bytes_trimRightUnicode : Hint := [(0, [0, 1], []), (1, [0, 1, 9], []), (2, [0, 1, 5, 6], []), (3, [0, 1, 5, 6, 18], []), (4, [0, 1, 5, 6], []), (5, [0, 1, 6, 27], []), (6, [0, 1], []), (7, [4], [])]
def ir_bytes_trimRightUnicode : AFunc := ⟨2, 35, [.tmp 4],
 (.seq (.ops [
   ⟨(some 4), .mv (.c (.slice none 0 0)), none⟩] [0, 1])
 (.seq (.block 0
  (.loop
   (.seq (.seq (.ops [
     ⟨(some 7), .mv (.t 0), none⟩,
     ⟨(some 8), .lenS (.t 7), none⟩,
     ⟨(some 9), .bin .gtr (.t 8) (.c (.int .i64 0)), none⟩] [0, 1, 9])
   (.cond (.t 9)
    .skip
    (.exit 0)))
   (.block 1
    (.seq (.ops [
      ⟨(some 10), .mv (.t 0), none⟩,
      ⟨(some 11), .mv (.t 0), none⟩,
      ⟨(some 12), .lenS (.t 11), none⟩,
      ⟨(some 13), .bin .sub (.t 12) (.c (.int .i64 1)), none⟩,
      ⟨(some 14), .iaddrS 1 (.t 10) (.t 13), none⟩,
      ⟨(some 15), .load none (.t 14), none⟩,
      ⟨(some 16), .conv .i32 (.t 15), none⟩,
      ⟨(some 5), .mv (.t 16), none⟩,
      ⟨(some 6), .mv (.c (.int .i64 1)), none⟩] [0, 1, 5, 6])
    (.seq (.seq (.ops [
      ⟨(some 17), .mv (.t 5), none⟩,
      ⟨(some 18), .bin .geq (.t 17) (.c (.int .i32 128)), none⟩] [0, 1, 5, 6, 18])
    (.cond (.t 18)
     (.ops [
       ⟨(some 20), .mv (.t 0), none⟩,
       ⟨(some 21), .call 164 [.t 20], none⟩,
       ⟨(some 19), .mv (.t 21), none⟩,
       ⟨(some 22), .ext (.t 19) 0, none⟩,
       ⟨(some 23), .ext (.t 19) 1, none⟩,
       ⟨(some 5), .mv (.t 22), none⟩,
       ⟨(some 6), .mv (.t 23), none⟩] [0, 1, 5, 6])
     .skip))
    (.seq (.seq (.ops [
      ⟨(some 24), .mv (.t 1), none⟩,
      ⟨(some 25), .mv (.t 5), none⟩,
      ⟨(some 26), .call 165 [.t 24, .t 25], none⟩,
      ⟨(some 27), .un .not (.t 26), none⟩] [0, 1, 6, 27])
    (.cond (.t 27)
     (.exit 0)
     .skip))
    (.ops [
      ⟨(some 28), .mv (.t 0), none⟩,
      ⟨(some 29), .mv (.t 0), none⟩,
      ⟨(some 30), .lenS (.t 29), none⟩,
      ⟨(some 31), .mv (.t 6), none⟩,
      ⟨(some 32), .bin .sub (.t 30) (.t 31), none⟩,
      ⟨(some 33), .slSl 1 (.t 28) none (some (.t 32)) none, none⟩,
      ⟨(some 0), .mv (.t 33), none⟩] [0, 1]))))))))
 (.seq (.ops [
   ⟨(some 34), .mv (.t 0), none⟩,
   ⟨(some 4), .mv (.t 34), none⟩] [4])
 .ret)))⟩

def h_bytes_asciiSet_contains : Hint := [(0, [0, 1], []), (1, [4], [])]
def ir_bytes_asciiSet_contains : AFunc := ⟨2, 10, [.tmp 4],
 (.seq (.ops [
   ⟨(some 4), .mv (.c (.bool false)), none⟩] [0, 1])
 (.seq (.ops [
   ⟨(some 5), .mv (.t 0), none⟩,
   ⟨(some 6), .mv (.t 1), none⟩,
   ⟨(some 7), .nilc (.t 5), none⟩,
   ⟨(some 8), .iaddrA 256 1 (.t 7) (.t 6), none⟩,
   ⟨(some 9), .load none (.t 8), none⟩,
   ⟨(some 4), .mv (.t 9), none⟩] [4])
 .ret))⟩

def h_unicode_utf8_DecodeLastRune : Hint := [(0, [0], []), (1, [0, 4], []), (2, [0, 4, 10], []), (3, [2, 3], []), (4, [0, 4, 5], []), (5, [0, 2, 4, 5], []), (6, [0, 2, 4, 5, 19], []), (7, [2, 3], []), (8, [0, 4, 5, 6], []), (9, [0, 4, 5, 6], []), (10, [0, 4, 5, 6, 28], []), (11, [0, 4, 5, 6], []), (12, [0, 4, 5, 6, 35], []), (13, [0, 4, 5, 37], []), (14, [0, 4, 5], []), (15, [2, 3, 4, 5], []), (16, [2, 3, 50], []), (17, [2, 3], []), (18, [2, 3], [])]
def ir_unicode_utf8_DecodeLastRune : AFunc := ⟨1, 53, [.tmp 2, .tmp 3],
 (.seq (.ops [
   ⟨(some 2), .mv (.c (.int .i32 0)), none⟩,
   ⟨(some 3), .mv (.c (.int .i64 0)), none⟩] [0])
 (.seq (.ops [
   ⟨(some 7), .mv (.t 0), none⟩,
   ⟨(some 8), .lenS (.t 7), none⟩,
   ⟨(some 4), .mv (.t 8), none⟩] [0, 4])
 (.seq (.seq (.ops [
   ⟨(some 9), .mv (.t 4), none⟩,
   ⟨(some 10), .bin .eql (.t 9) (.c (.int .i64 0)), none⟩] [0, 4, 10])
 (.cond (.t 10)
  (.seq (.ops [
    ⟨(some 2), .mv (.c (.int .i32 65533)), none⟩,
    ⟨(some 3), .mv (.c (.int .i64 0)), none⟩] [2, 3])
  .ret)
  .skip))
 (.seq (.ops [
   ⟨(some 11), .mv (.t 4), none⟩,
   ⟨(some 12), .bin .sub (.t 11) (.c (.int .i64 1)), none⟩,
   ⟨(some 5), .mv (.t 12), none⟩] [0, 4, 5])
 (.seq (.ops [
   ⟨(some 13), .mv (.t 0), none⟩,
   ⟨(some 14), .mv (.t 5), none⟩,
   ⟨(some 15), .iaddrS 1 (.t 13) (.t 14), none⟩,
   ⟨(some 16), .load none (.t 15), none⟩,
   ⟨(some 17), .conv .i32 (.t 16), none⟩,
   ⟨(some 2), .mv (.t 17), none⟩] [0, 2, 4, 5])
 (.seq (.seq (.ops [
   ⟨(some 18), .mv (.t 2), none⟩,
   ⟨(some 19), .bin .lss (.t 18) (.c (.int .i32 128)), none⟩] [0, 2, 4, 5, 19])
 (.cond (.t 19)
  (.seq (.ops [
    ⟨(some 20), .mv (.t 2), none⟩,
    ⟨(some 2), .mv (.t 20), none⟩,
    ⟨(some 3), .mv (.c (.int .i64 1)), none⟩] [2, 3])
  .ret)
  .skip))
 (.seq (.ops [
   ⟨(some 21), .mv (.t 4), none⟩,
   ⟨(some 22), .bin .sub (.t 21) (.c (.int .i64 4)), none⟩,
   ⟨(some 23), .mx (.t 22) (.c (.int .i64 0)), none⟩,
   ⟨(some 6), .mv (.t 23), none⟩] [0, 4, 5, 6])
 (.seq (.seq (.ops [
   ⟨(some 24), .mv (.t 5), none⟩,
   ⟨(some 25), .bin .sub (.t 24) (.c (.int .i64 1)), none⟩,
   ⟨(some 5), .mv (.t 25), none⟩] [0, 4, 5, 6])
 (.block 0
  (.loop
   (.seq (.seq (.ops [
     ⟨(some 26), .mv (.t 5), none⟩,
     ⟨(some 27), .mv (.t 6), none⟩,
     ⟨(some 28), .bin .geq (.t 26) (.t 27), none⟩] [0, 4, 5, 6, 28])
   (.cond (.t 28)
    .skip
    (.exit 0)))
   (.seq (.block 1
    (.seq (.ops [
      ⟨(some 31), .mv (.t 0), none⟩,
      ⟨(some 32), .mv (.t 5), none⟩,
      ⟨(some 33), .iaddrS 1 (.t 31) (.t 32), none⟩,
      ⟨(some 34), .load none (.t 33), none⟩,
      ⟨(some 35), .call 166 [.t 34], none⟩] [0, 4, 5, 6, 35])
    (.cond (.t 35)
     (.exit 0)
     .skip)))
   (.ops [
     ⟨(some 29), .mv (.t 5), none⟩,
     ⟨(some 30), .bin .sub (.t 29) (.c (.int .i64 1)), none⟩,
     ⟨(some 5), .mv (.t 30), none⟩] [0, 4, 5, 6]))))))
 (.seq (.seq (.ops [
   ⟨(some 36), .mv (.t 5), none⟩,
   ⟨(some 37), .bin .lss (.t 36) (.c (.int .i64 0)), none⟩] [0, 4, 5, 37])
 (.cond (.t 37)
  (.ops [
    ⟨(some 5), .mv (.c (.int .i64 0)), none⟩] [0, 4, 5])
  .skip))
 (.seq (.ops [
   ⟨(some 39), .mv (.t 0), none⟩,
   ⟨(some 40), .mv (.t 5), none⟩,
   ⟨(some 41), .mv (.t 4), none⟩,
   ⟨(some 42), .slSl 1 (.t 39) (some (.t 40)) (some (.t 41)) none, none⟩,
   ⟨(some 43), .call 167 [.t 42], none⟩,
   ⟨(some 38), .mv (.t 43), none⟩,
   ⟨(some 44), .ext (.t 38) 0, none⟩,
   ⟨(some 45), .ext (.t 38) 1, none⟩,
   ⟨(some 2), .mv (.t 44), none⟩,
   ⟨(some 3), .mv (.t 45), none⟩] [2, 3, 4, 5])
 (.seq (.seq (.ops [
   ⟨(some 46), .mv (.t 5), none⟩,
   ⟨(some 47), .mv (.t 3), none⟩,
   ⟨(some 48), .bin .add (.t 46) (.t 47), none⟩,
   ⟨(some 49), .mv (.t 4), none⟩,
   ⟨(some 50), .bin .neq (.t 48) (.t 49), none⟩] [2, 3, 50])
 (.cond (.t 50)
  (.seq (.ops [
    ⟨(some 2), .mv (.c (.int .i32 65533)), none⟩,
    ⟨(some 3), .mv (.c (.int .i64 1)), none⟩] [2, 3])
  .ret)
  .skip))
 (.seq (.ops [
   ⟨(some 51), .mv (.t 2), none⟩,
   ⟨(some 52), .mv (.t 3), none⟩,
   ⟨(some 2), .mv (.t 51), none⟩,
   ⟨(some 3), .mv (.t 52), none⟩] [2, 3])
 .ret))))))))))))⟩

def h_bytes_containsRune : Hint := [(0, [0, 1], []), (1, [1, 8], []), (2, [1, 8, 9, 10], []), (3, [1, 6, 8], []), (4, [1, 8, 14], []), (5, [4], []), (6, [4], [])]
def ir_bytes_containsRune : AFunc := ⟨2, 15, [.tmp 4],
 (.seq (.ops [
   ⟨(some 4), .mv (.c (.bool false)), none⟩] [0, 1])
 (.seq (.seq (.ops [
   ⟨(some 7), .mv (.t 0), none⟩,
   ⟨(some 8), .bad, none⟩] [1, 8])
 (.block 0
  (.loop
   (.seq (.ops [
     ⟨(some 9), .bad, none⟩,
     ⟨(some 10), .ext (.t 9) 0, none⟩] [1, 8, 9, 10])
   (.seq (.cond (.t 10)
    .skip
    (.exit 0))
   (.block 1
    (.seq (.ops [
      ⟨(some 11), .ext (.t 9) 2, none⟩,
      ⟨(some 6), .mv (.t 11), none⟩] [1, 6, 8])
    (.seq (.ops [
      ⟨(some 12), .mv (.t 6), none⟩,
      ⟨(some 13), .mv (.t 1), none⟩,
      ⟨(some 14), .bin .eql (.t 12) (.t 13), none⟩] [1, 8, 14])
    (.cond (.t 14)
     (.seq (.ops [
       ⟨(some 4), .mv (.c (.bool true)), none⟩] [4])
     .ret)
     .skip)))))))))
 (.seq (.ops [
   ⟨(some 4), .mv (.c (.bool false)), none⟩] [4])
 .ret)))⟩

def h_unicode_utf8_RuneStart : Hint := [(0, [0], []), (1, [2], [])]
def ir_unicode_utf8_RuneStart : AFunc := ⟨1, 6, [.tmp 2],
 (.seq (.ops [
   ⟨(some 2), .mv (.c (.bool false)), none⟩] [0])
 (.seq (.ops [
   ⟨(some 3), .mv (.t 0), none⟩,
   ⟨(some 4), .bin .and (.t 3) (.c (.int .u8 192)), none⟩,
   ⟨(some 5), .bin .neq (.t 4) (.c (.int .u8 128)), none⟩,
   ⟨(some 2), .mv (.t 5), none⟩] [2])
 .ret))⟩

def h_unicode_utf8_DecodeRune : Hint := [(0, [0], []), (1, [0, 6, 7, 8], []), (2, [0, 6, 8, 9], []), (3, [0, 5], []), (4, [0, 5, 13], []), (5, [2, 3], []), (6, [0, 6, 7, 8], []), (7, [2, 3], [])]
def ir_unicode_utf8_DecodeRune : AFunc := ⟨1, 22, [.tmp 2, .tmp 3],
 (.seq (.ops [
   ⟨(some 2), .mv (.c (.int .i32 0)), none⟩,
   ⟨(some 3), .mv (.c (.int .i64 0)), none⟩] [0])
 (.seq (.seq (.ops [
   ⟨(some 6), .mv (.t 0), none⟩,
   ⟨(some 7), .lenS (.t 6), none⟩,
   ⟨(some 8), .mv (.c (.int .i64 0)), none⟩] [0, 6, 7, 8])
 (.block 0
  (.loop
   (.seq (.ops [
     ⟨(some 9), .bin .lss (.t 8) (.t 7), none⟩] [0, 6, 8, 9])
   (.seq (.cond (.t 9)
    .skip
    (.exit 0))
   (.seq (.block 1
    (.seq (.ops [
      ⟨(some 10), .iaddrS 1 (.t 6) (.t 8), none⟩,
      ⟨(some 11), .load none (.t 10), none⟩,
      ⟨(some 5), .mv (.t 11), none⟩] [0, 5])
    (.seq (.seq (.ops [
      ⟨(some 12), .mv (.t 5), none⟩,
      ⟨(some 13), .bin .lss (.t 12) (.c (.int .u8 128)), none⟩] [0, 5, 13])
    (.cond (.t 13)
     (.seq (.ops [
       ⟨(some 14), .mv (.t 5), none⟩,
       ⟨(some 15), .conv .i32 (.t 14), none⟩,
       ⟨(some 2), .mv (.t 15), none⟩,
       ⟨(some 3), .mv (.c (.int .i64 1)), none⟩] [2, 3])
     .ret)
     .skip))
    (.exit 0))))
   (.ops [
     ⟨(some 16), .bin .add (.t 8) (.c (.int .i64 1)), none⟩,
     ⟨(some 8), .mv (.t 16), none⟩] [0, 6, 7, 8])))))))
 (.seq (.ops [
   ⟨(some 18), .mv (.t 0), none⟩,
   ⟨(some 19), .call 168 [.t 18], none⟩,
   ⟨(some 17), .mv (.t 19), none⟩,
   ⟨(some 20), .ext (.t 17) 0, none⟩,
   ⟨(some 21), .ext (.t 17) 1, none⟩,
   ⟨(some 2), .mv (.t 20), none⟩,
   ⟨(some 3), .mv (.t 21), none⟩] [2, 3])
 .ret)))⟩

def h_unicode_utf8_decodeRuneSlow : Hint := [(0, [0], []), (1, [0, 4], []), (2, [0, 4, 16], []), (3, [2, 3], []), (4, [0, 4, 5], []), (5, [0, 4, 5, 6], []), (6, [0, 4, 5, 6, 24], []), (7, [0, 7], []), (8, [2, 3], []), (9, [0, 4, 5, 6, 8], []), (10, [0, 4, 5, 8, 9], []), (11, [0, 5, 8, 9, 47], []), (12, [2, 3], []), (13, [0, 5, 8, 9, 10], []), (14, [0, 5, 8, 10, 60], []), (15, [2, 3], []), (16, [0, 5, 8, 10, 62], []), (17, [2, 3], []), (18, [0, 5, 8, 10, 11], []), (19, [0, 5, 8, 10, 11, 79], []), (20, [2, 3], []), (21, [0, 5, 10, 11, 81], []), (22, [2, 3], []), (23, [5, 10, 11, 12], []), (24, [5, 10, 11, 12, 103], []), (25, [2, 3], []), (26, [2, 3], [])]
def ir_unicode_utf8_decodeRuneSlow : AFunc := ⟨1, 122, [.tmp 2, .tmp 3],
 (.seq (.ops [
   ⟨(some 2), .mv (.c (.int .i32 0)), none⟩,
   ⟨(some 3), .mv (.c (.int .i64 0)), none⟩] [0])
 (.seq (.ops [
   ⟨(some 13), .mv (.t 0), none⟩,
   ⟨(some 14), .lenS (.t 13), none⟩,
   ⟨(some 4), .mv (.t 14), none⟩] [0, 4])
 (.seq (.seq (.ops [
   ⟨(some 15), .mv (.t 4), none⟩,
   ⟨(some 16), .bin .lss (.t 15) (.c (.int .i64 1)), none⟩] [0, 4, 16])
 (.cond (.t 16)
  (.seq (.ops [
    ⟨(some 2), .mv (.c (.int .i32 65533)), none⟩,
    ⟨(some 3), .mv (.c (.int .i64 0)), none⟩] [2, 3])
  .ret)
  .skip))
 (.seq (.ops [
   ⟨(some 17), .mv (.t 0), none⟩,
   ⟨(some 18), .iaddrS 1 (.t 17) (.c (.int .i64 0)), none⟩,
   ⟨(some 19), .load none (.t 18), none⟩,
   ⟨(some 5), .mv (.t 19), none⟩] [0, 4, 5])
 (.seq (.ops [
   ⟨(some 20), .mv (.t 5), none⟩,
   ⟨(some 21), .bad, none⟩,
   ⟨(some 22), .load none (.t 21), none⟩,
   ⟨(some 6), .mv (.t 22), none⟩] [0, 4, 5, 6])
 (.seq (.seq (.ops [
   ⟨(some 23), .mv (.t 6), none⟩,
   ⟨(some 24), .bin .geq (.t 23) (.c (.int .u8 240)), none⟩] [0, 4, 5, 6, 24])
 (.cond (.t 24)
  (.seq (.ops [
    ⟨(some 25), .mv (.t 6), none⟩,
    ⟨(some 26), .conv .i32 (.t 25), none⟩,
    ⟨(some 27), .bin .shl (.t 26) (.c (.int .u64 31)), none⟩,
    ⟨(some 28), .bin .shr (.t 27) (.c (.int .u64 31)), none⟩,
    ⟨(some 7), .mv (.t 28), none⟩] [0, 7])
  (.seq (.ops [
    ⟨(some 29), .mv (.t 0), none⟩,
    ⟨(some 30), .iaddrS 1 (.t 29) (.c (.int .i64 0)), none⟩,
    ⟨(some 31), .load none (.t 30), none⟩,
    ⟨(some 32), .conv .i32 (.t 31), none⟩,
    ⟨(some 33), .mv (.t 7), none⟩,
    ⟨(some 34), .bin .andNot (.t 32) (.t 33), none⟩,
    ⟨(some 35), .mv (.t 7), none⟩,
    ⟨(some 36), .bin .and (.c (.int .i32 65533)) (.t 35), none⟩,
    ⟨(some 37), .bin .or (.t 34) (.t 36), none⟩,
    ⟨(some 2), .mv (.t 37), none⟩,
    ⟨(some 3), .mv (.c (.int .i64 1)), none⟩] [2, 3])
  .ret))
  .skip))
 (.seq (.ops [
   ⟨(some 38), .mv (.t 6), none⟩,
   ⟨(some 39), .bin .and (.t 38) (.c (.int .u8 7)), none⟩,
   ⟨(some 40), .conv .i64 (.t 39), none⟩,
   ⟨(some 8), .mv (.t 40), none⟩] [0, 4, 5, 6, 8])
 (.seq (.ops [
   ⟨(some 41), .mv (.t 6), none⟩,
   ⟨(some 42), .bin .shr (.t 41) (.c (.int .u64 4)), none⟩,
   ⟨(some 43), .bad, none⟩,
   ⟨(some 44), .load (some 2) (.t 43), none⟩,
   ⟨(some 9), .alloc ([.int .u8 0, .int .u8 0]), none⟩,
   ⟨none, .store 2 (.t 9) (.t 44), none⟩] [0, 4, 5, 8, 9])
 (.seq (.seq (.ops [
   ⟨(some 45), .mv (.t 4), none⟩,
   ⟨(some 46), .mv (.t 8), none⟩,
   ⟨(some 47), .bin .lss (.t 45) (.t 46), none⟩] [0, 5, 8, 9, 47])
 (.cond (.t 47)
  (.seq (.ops [
    ⟨(some 2), .mv (.c (.int .i32 65533)), none⟩,
    ⟨(some 3), .mv (.c (.int .i64 1)), none⟩] [2, 3])
  .ret)
  .skip))
 (.seq (.ops [
   ⟨(some 48), .mv (.t 0), none⟩,
   ⟨(some 49), .iaddrS 1 (.t 48) (.c (.int .i64 1)), none⟩,
   ⟨(some 50), .load none (.t 49), none⟩,
   ⟨(some 10), .mv (.t 50), none⟩] [0, 5, 8, 9, 10])
 (.seq (.seq (.ops [
   ⟨(some 51), .mv (.t 10), none⟩,
   ⟨(some 52), .faddr 0 (.t 9), none⟩,
   ⟨(some 53), .load none (.t 52), none⟩,
   ⟨(some 54), .bin .lss (.t 51) (.t 53), none⟩,
   ⟨(some 55), .mv (.t 54), none⟩,
   ⟨(some 56), .faddr 1 (.t 9), (some (55, false))⟩,
   ⟨(some 57), .load none (.t 56), (some (55, false))⟩,
   ⟨(some 58), .mv (.t 10), (some (55, false))⟩,
   ⟨(some 59), .bin .lss (.t 57) (.t 58), (some (55, false))⟩,
   ⟨(some 60), .pick (.t 55) (.c (.bool true)) (.t 59), none⟩] [0, 5, 8, 10, 60])
 (.cond (.t 60)
  (.seq (.ops [
    ⟨(some 2), .mv (.c (.int .i32 65533)), none⟩,
    ⟨(some 3), .mv (.c (.int .i64 1)), none⟩] [2, 3])
  .ret)
  .skip))
 (.seq (.seq (.ops [
   ⟨(some 61), .mv (.t 8), none⟩,
   ⟨(some 62), .bin .leq (.t 61) (.c (.int .i64 2)), none⟩] [0, 5, 8, 10, 62])
 (.cond (.t 62)
  (.seq (.ops [
    ⟨(some 63), .mv (.t 5), none⟩,
    ⟨(some 64), .bin .and (.t 63) (.c (.int .u8 31)), none⟩,
    ⟨(some 65), .conv .i32 (.t 64), none⟩,
    ⟨(some 66), .bin .shl (.t 65) (.c (.int .u64 6)), none⟩,
    ⟨(some 67), .mv (.t 10), none⟩,
    ⟨(some 68), .bin .and (.t 67) (.c (.int .u8 63)), none⟩,
    ⟨(some 69), .conv .i32 (.t 68), none⟩,
    ⟨(some 70), .bin .or (.t 66) (.t 69), none⟩,
    ⟨(some 2), .mv (.t 70), none⟩,
    ⟨(some 3), .mv (.c (.int .i64 2)), none⟩] [2, 3])
  .ret)
  .skip))
 (.seq (.ops [
   ⟨(some 71), .mv (.t 0), none⟩,
   ⟨(some 72), .iaddrS 1 (.t 71) (.c (.int .i64 2)), none⟩,
   ⟨(some 73), .load none (.t 72), none⟩,
   ⟨(some 11), .mv (.t 73), none⟩] [0, 5, 8, 10, 11])
 (.seq (.seq (.ops [
   ⟨(some 74), .mv (.t 11), none⟩,
   ⟨(some 75), .bin .lss (.t 74) (.c (.int .u8 128)), none⟩,
   ⟨(some 76), .mv (.t 75), none⟩,
   ⟨(some 77), .mv (.t 11), (some (76, false))⟩,
   ⟨(some 78), .bin .lss (.c (.int .u8 191)) (.t 77), (some (76, false))⟩,
   ⟨(some 79), .pick (.t 76) (.c (.bool true)) (.t 78), none⟩] [0, 5, 8, 10, 11, 79])
 (.cond (.t 79)
  (.seq (.ops [
    ⟨(some 2), .mv (.c (.int .i32 65533)), none⟩,
    ⟨(some 3), .mv (.c (.int .i64 1)), none⟩] [2, 3])
  .ret)
  .skip))
 (.seq (.seq (.ops [
   ⟨(some 80), .mv (.t 8), none⟩,
   ⟨(some 81), .bin .leq (.t 80) (.c (.int .i64 3)), none⟩] [0, 5, 10, 11, 81])
 (.cond (.t 81)
  (.seq (.ops [
    ⟨(some 82), .mv (.t 5), none⟩,
    ⟨(some 83), .bin .and (.t 82) (.c (.int .u8 15)), none⟩,
    ⟨(some 84), .conv .i32 (.t 83), none⟩,
    ⟨(some 85), .bin .shl (.t 84) (.c (.int .u64 12)), none⟩,
    ⟨(some 86), .mv (.t 10), none⟩,
    ⟨(some 87), .bin .and (.t 86) (.c (.int .u8 63)), none⟩,
    ⟨(some 88), .conv .i32 (.t 87), none⟩,
    ⟨(some 89), .bin .shl (.t 88) (.c (.int .u64 6)), none⟩,
    ⟨(some 90), .bin .or (.t 85) (.t 89), none⟩,
    ⟨(some 91), .mv (.t 11), none⟩,
    ⟨(some 92), .bin .and (.t 91) (.c (.int .u8 63)), none⟩,
    ⟨(some 93), .conv .i32 (.t 92), none⟩,
    ⟨(some 94), .bin .or (.t 90) (.t 93), none⟩,
    ⟨(some 2), .mv (.t 94), none⟩,
    ⟨(some 3), .mv (.c (.int .i64 3)), none⟩] [2, 3])
  .ret)
  .skip))
 (.seq (.ops [
   ⟨(some 95), .mv (.t 0), none⟩,
   ⟨(some 96), .iaddrS 1 (.t 95) (.c (.int .i64 3)), none⟩,
   ⟨(some 97), .load none (.t 96), none⟩,
   ⟨(some 12), .mv (.t 97), none⟩] [5, 10, 11, 12])
 (.seq (.seq (.ops [
   ⟨(some 98), .mv (.t 12), none⟩,
   ⟨(some 99), .bin .lss (.t 98) (.c (.int .u8 128)), none⟩,
   ⟨(some 100), .mv (.t 99), none⟩,
   ⟨(some 101), .mv (.t 12), (some (100, false))⟩,
   ⟨(some 102), .bin .lss (.c (.int .u8 191)) (.t 101), (some (100, false))⟩,
   ⟨(some 103), .pick (.t 100) (.c (.bool true)) (.t 102), none⟩] [5, 10, 11, 12, 103])
 (.cond (.t 103)
  (.seq (.ops [
    ⟨(some 2), .mv (.c (.int .i32 65533)), none⟩,
    ⟨(some 3), .mv (.c (.int .i64 1)), none⟩] [2, 3])
  .ret)
  .skip))
 (.seq (.ops [
   ⟨(some 104), .mv (.t 5), none⟩,
   ⟨(some 105), .bin .and (.t 104) (.c (.int .u8 7)), none⟩,
   ⟨(some 106), .conv .i32 (.t 105), none⟩,
   ⟨(some 107), .bin .shl (.t 106) (.c (.int .u64 18)), none⟩,
   ⟨(some 108), .mv (.t 10), none⟩,
   ⟨(some 109), .bin .and (.t 108) (.c (.int .u8 63)), none⟩,
   ⟨(some 110), .conv .i32 (.t 109), none⟩,
   ⟨(some 111), .bin .shl (.t 110) (.c (.int .u64 12)), none⟩,
   ⟨(some 112), .bin .or (.t 107) (.t 111), none⟩,
   ⟨(some 113), .mv (.t 11), none⟩,
   ⟨(some 114), .bin .and (.t 113) (.c (.int .u8 63)), none⟩,
   ⟨(some 115), .conv .i32 (.t 114), none⟩,
   ⟨(some 116), .bin .shl (.t 115) (.c (.int .u64 6)), none⟩,
   ⟨(some 117), .bin .or (.t 112) (.t 116), none⟩,
   ⟨(some 118), .mv (.t 12), none⟩,
   ⟨(some 119), .bin .and (.t 118) (.c (.int .u8 63)), none⟩,
   ⟨(some 120), .conv .i32 (.t 119), none⟩,
   ⟨(some 121), .bin .or (.t 117) (.t 120), none⟩,
   ⟨(some 2), .mv (.t 121), none⟩,
   ⟨(some 3), .mv (.c (.int .i64 4)), none⟩] [2, 3])
 .ret))))))))))))))))))⟩

noncomputable def tabT : NT := (.node 158 (h_bytes_Clone, ir_bytes_Clone) (.node 153 (h_pad_Unpad, ir_pad_Unpad) (.node 150 (h_bandboxlaw12_PadSays, ir_bandboxlaw12_PadSays) (.node 14 (h_pad_Bucket, ir_pad_Bucket) (.node 13 (h_bandboxlaw12_awake, ir_bandboxlaw12_awake) .leaf .leaf) .leaf) (.node 152 (h_pad_Pad, ir_pad_Pad) (.node 151 (h_bandboxlaw12_PadBack, ir_bandboxlaw12_PadBack) .leaf .leaf) .leaf)) (.node 156 (h_bandboxref11_Unpad, ir_bandboxref11_Unpad) (.node 155 (h_bandboxref11_Pad, ir_bandboxref11_Pad) (.node 154 (h_bandboxref11_Bucket, ir_bandboxref11_Bucket) .leaf .leaf) .leaf) (.node 157 (h_bytes_TrimRight, ir_bytes_TrimRight) .leaf .leaf))) (.node 164 (h_unicode_utf8_DecodeLastRune, ir_unicode_utf8_DecodeLastRune) (.node 161 (h_bytes_trimRightASCII, ir_bytes_trimRightASCII) (.node 160 (h_bytes_makeASCIISet, ir_bytes_makeASCIISet) (.node 159 (h_bytes_trimRightByte, ir_bytes_trimRightByte) .leaf .leaf) .leaf) (.node 163 (h_bytes_asciiSet_contains, ir_bytes_asciiSet_contains) (.node 162 (h_bytes_trimRightUnicode, ir_bytes_trimRightUnicode) .leaf .leaf) .leaf)) (.node 167 (h_unicode_utf8_DecodeRune, ir_unicode_utf8_DecodeRune) (.node 166 (h_unicode_utf8_RuneStart, ir_unicode_utf8_RuneStart) (.node 165 (h_bytes_containsRune, ir_bytes_containsRune) .leaf .leaf) .leaf) (.node 168 (h_unicode_utf8_decodeRuneSlow, ir_unicode_utf8_decodeRuneSlow) .leaf .leaf))))
noncomputable def tab : Nat → Option (Hint × AFunc) := tabT.find
abbrev n_bandboxlaw12_awake : Nat := 13
abbrev n_pad_Bucket : Nat := 14
abbrev n_bandboxlaw12_PadSays : Nat := 150
abbrev n_bandboxlaw12_PadBack : Nat := 151
abbrev n_pad_Pad : Nat := 152
abbrev n_pad_Unpad : Nat := 153
abbrev n_bandboxref11_Bucket : Nat := 154
abbrev n_bandboxref11_Pad : Nat := 155
abbrev n_bandboxref11_Unpad : Nat := 156
abbrev n_bytes_TrimRight : Nat := 157
abbrev n_bytes_Clone : Nat := 158
abbrev n_bytes_trimRightByte : Nat := 159
abbrev n_bytes_makeASCIISet : Nat := 160
abbrev n_bytes_trimRightASCII : Nat := 161
abbrev n_bytes_trimRightUnicode : Nat := 162
abbrev n_bytes_asciiSet_contains : Nat := 163
abbrev n_unicode_utf8_DecodeLastRune : Nat := 164
abbrev n_bytes_containsRune : Nat := 165
abbrev n_unicode_utf8_RuneStart : Nat := 166
abbrev n_unicode_utf8_DecodeRune : Nat := 167
abbrev n_unicode_utf8_decodeRuneSlow : Nat := 168
end Go.Bb
