/- The functions that this claim reaches, in short form; printed by a program of mine. -/
import Derived.Test.YtgoifophjcbpaaaBbU
namespace Go.Bb
set_option maxRecDepth 20000
def h_bandboxlaw12_PadBuckets : Hint := [(0, [0, 1], []), (1, [0, 1, 11], []), (2, [4], []), (3, [0, 1, 22], []), (4, [4], []), (5, [0, 1, 5, 6], []), (6, [0, 5, 6, 7, 8], []), (7, [0, 5, 6, 7, 8, 9], []), (8, [0, 5, 6, 7, 8, 9, 39], []), (9, [0, 5, 6, 7, 8, 9], []), (10, [4], [])]
def ir_bandboxlaw12_PadBuckets : AFunc := ⟨2, 73, [.tmp 4],
 (.seq (.ops [
   ⟨(some 4), .mv (.c (.bool false)), none⟩] [0, 1])
 (.seq (.seq (.ops [
   ⟨(some 10), .call 13 [], none⟩,
   ⟨(some 11), .un .not (.t 10), none⟩] [0, 1, 11])
 (.cond (.t 11)
  (.seq (.ops [
    ⟨(some 4), .mv (.c (.bool false)), none⟩] [4])
  .ret)
  .skip))
 (.seq (.seq (.ops [
   ⟨(some 12), .mv (.t 0), none⟩,
   ⟨(some 13), .bin .lss (.t 12) (.c (.int .i64 0)), none⟩,
   ⟨(some 14), .mv (.t 13), none⟩,
   ⟨(some 15), .mv (.t 1), (some (14, false))⟩,
   ⟨(some 16), .mv (.t 0), (some (14, false))⟩,
   ⟨(some 17), .bin .lss (.t 15) (.t 16), (some (14, false))⟩,
   ⟨(some 18), .pick (.t 14) (.c (.bool true)) (.t 17), none⟩,
   ⟨(some 19), .mv (.t 18), none⟩,
   ⟨(some 20), .mv (.t 1), (some (19, false))⟩,
   ⟨(some 21), .bin .gtr (.t 20) (.c (.int .i64 65535)), (some (19, false))⟩,
   ⟨(some 22), .pick (.t 19) (.c (.bool true)) (.t 21), none⟩] [0, 1, 22])
 (.cond (.t 22)
  (.seq (.ops [
    ⟨(some 4), .mv (.c (.bool true)), none⟩] [4])
  .ret)
  .skip))
 (.seq (.ops [
   ⟨(some 24), .mv (.t 0), none⟩,
   ⟨(some 25), .call 14 [.t 24], none⟩,
   ⟨(some 23), .mv (.t 25), none⟩,
   ⟨(some 26), .ext (.t 23) 0, none⟩,
   ⟨(some 27), .ext (.t 23) 1, none⟩,
   ⟨(some 5), .mv (.t 26), none⟩,
   ⟨(some 6), .mv (.t 27), none⟩] [0, 1, 5, 6])
 (.seq (.ops [
   ⟨(some 29), .mv (.t 1), none⟩,
   ⟨(some 30), .call 14 [.t 29], none⟩,
   ⟨(some 28), .mv (.t 30), none⟩,
   ⟨(some 31), .ext (.t 28) 0, none⟩,
   ⟨(some 32), .ext (.t 28) 1, none⟩,
   ⟨(some 7), .mv (.t 31), none⟩,
   ⟨(some 8), .mv (.t 32), none⟩] [0, 5, 6, 7, 8])
 (.seq (.ops [
   ⟨(some 9), .mv (.c (.int .i64 64)), none⟩] [0, 5, 6, 7, 8, 9])
 (.seq (.block 0
  (.loop
   (.seq (.seq (.ops [
     ⟨(some 33), .mv (.t 9), none⟩,
     ⟨(some 34), .mv (.t 5), none⟩,
     ⟨(some 35), .bin .lss (.t 33) (.t 34), none⟩,
     ⟨(some 36), .mv (.t 35), none⟩,
     ⟨(some 37), .mv (.t 9), (some (36, true))⟩,
     ⟨(some 38), .bin .lss (.t 37) (.c (.int .i64 1048576)), (some (36, true))⟩,
     ⟨(some 39), .pick (.t 36) (.t 38) (.c (.bool false)), none⟩] [0, 5, 6, 7, 8, 9, 39])
   (.cond (.t 39)
    .skip
    (.exit 0)))
   (.block 1
    (.ops [
      ⟨(some 40), .mv (.t 9), none⟩,
      ⟨(some 41), .bin .mul (.c (.int .i64 2)) (.t 40), none⟩,
      ⟨(some 9), .mv (.t 41), none⟩] [0, 5, 6, 7, 8, 9])))))
 (.seq (.ops [
   ⟨(some 42), .mv (.t 6), none⟩,
   ⟨(some 43), .bin .eql (.t 42) (.c (.int .i64 0)), none⟩,
   ⟨(some 44), .mv (.t 43), none⟩,
   ⟨(some 45), .mv (.t 8), (some (44, true))⟩,
   ⟨(some 46), .bin .eql (.t 45) (.c (.int .i64 0)), (some (44, true))⟩,
   ⟨(some 47), .pick (.t 44) (.t 46) (.c (.bool false)), none⟩,
   ⟨(some 48), .mv (.t 47), none⟩,
   ⟨(some 49), .mv (.t 5), (some (48, true))⟩,
   ⟨(some 50), .mv (.t 7), (some (48, true))⟩,
   ⟨(some 51), .bin .leq (.t 49) (.t 50), (some (48, true))⟩,
   ⟨(some 52), .pick (.t 48) (.t 51) (.c (.bool false)), none⟩,
   ⟨(some 53), .mv (.t 52), none⟩,
   ⟨(some 54), .mv (.t 9), (some (53, true))⟩,
   ⟨(some 55), .mv (.t 5), (some (53, true))⟩,
   ⟨(some 56), .bin .eql (.t 54) (.t 55), (some (53, true))⟩,
   ⟨(some 57), .pick (.t 53) (.t 56) (.c (.bool false)), none⟩,
   ⟨(some 58), .mv (.t 57), none⟩,
   ⟨(some 59), .mv (.t 5), (some (58, true))⟩,
   ⟨(some 60), .mv (.t 0), (some (58, true))⟩,
   ⟨(some 61), .bin .gtr (.t 59) (.t 60), (some (58, true))⟩,
   ⟨(some 62), .pick (.t 58) (.t 61) (.c (.bool false)), none⟩,
   ⟨(some 63), .mv (.t 62), none⟩,
   ⟨(some 64), .mv (.t 5), (some (63, true))⟩,
   ⟨(some 65), .bin .eql (.t 64) (.c (.int .i64 64)), (some (63, true))⟩,
   ⟨(some 66), .mv (.t 65), (some (63, true))⟩,
   ⟨(some 67), .mv (.t 0), (some (66, false))⟩,
   ⟨(some 68), .mv (.t 5), (some (66, false))⟩,
   ⟨(some 69), .bin .quo (.t 68) (.c (.int .i64 2)), (some (66, false))⟩,
   ⟨(some 70), .bin .geq (.t 67) (.t 69), (some (66, false))⟩,
   ⟨(some 71), .pick (.t 66) (.c (.bool true)) (.t 70), (some (63, true))⟩,
   ⟨(some 72), .pick (.t 63) (.t 71) (.c (.bool false)), none⟩,
   ⟨(some 4), .mv (.t 72), none⟩] [4])
 .ret))))))))⟩

def h_bandboxlaw12_awake : Hint := [(0, [], []), (1, [1, 2], []), (2, [1, 2, 3, 4], []), (3, [0], [])]
def ir_bandboxlaw12_awake : AFunc := ⟨0, 27, [.tmp 0],
 (.seq (.ops [
   ⟨(some 0), .mv (.c (.bool false)), none⟩] [])
 (.seq (.ops [
   ⟨(some 6), .call 14 [.c (.int .i64 63)], none⟩,
   ⟨(some 5), .mv (.t 6), none⟩,
   ⟨(some 7), .ext (.t 5) 0, none⟩,
   ⟨(some 8), .ext (.t 5) 1, none⟩,
   ⟨(some 1), .mv (.t 7), none⟩,
   ⟨(some 2), .mv (.t 8), none⟩] [1, 2])
 (.seq (.ops [
   ⟨(some 10), .call 14 [.c (.int .i64 64)], none⟩,
   ⟨(some 9), .mv (.t 10), none⟩,
   ⟨(some 11), .ext (.t 9) 0, none⟩,
   ⟨(some 12), .ext (.t 9) 1, none⟩,
   ⟨(some 3), .mv (.t 11), none⟩,
   ⟨(some 4), .mv (.t 12), none⟩] [1, 2, 3, 4])
 (.seq (.ops [
   ⟨(some 13), .mv (.t 2), none⟩,
   ⟨(some 14), .bin .eql (.t 13) (.c (.int .i64 0)), none⟩,
   ⟨(some 15), .mv (.t 14), none⟩,
   ⟨(some 16), .mv (.t 4), (some (15, true))⟩,
   ⟨(some 17), .bin .eql (.t 16) (.c (.int .i64 0)), (some (15, true))⟩,
   ⟨(some 18), .pick (.t 15) (.t 17) (.c (.bool false)), none⟩,
   ⟨(some 19), .mv (.t 18), none⟩,
   ⟨(some 20), .mv (.t 1), (some (19, true))⟩,
   ⟨(some 21), .bin .eql (.t 20) (.c (.int .i64 64)), (some (19, true))⟩,
   ⟨(some 22), .pick (.t 19) (.t 21) (.c (.bool false)), none⟩,
   ⟨(some 23), .mv (.t 22), none⟩,
   ⟨(some 24), .mv (.t 3), (some (23, true))⟩,
   ⟨(some 25), .bin .eql (.t 24) (.c (.int .i64 128)), (some (23, true))⟩,
   ⟨(some 26), .pick (.t 23) (.t 25) (.c (.bool false)), none⟩,
   ⟨(some 0), .mv (.t 26), none⟩] [0])
 .ret))))⟩

def h_pad_Bucket : Hint := [(0, [0], []), (1, [0, 5], []), (2, [2, 3], []), (3, [0, 8], []), (4, [2, 3], []), (5, [0, 4], []), (6, [0, 4, 14], []), (7, [0, 4], []), (8, [2, 3], [])]
def ir_pad_Bucket : AFunc := ⟨1, 18, [.tmp 2, .tmp 3],
 (.seq (.ops [
   ⟨(some 2), .mv (.c (.int .i64 0)), none⟩,
   ⟨(some 3), .mv (.c (.int .i64 0)), none⟩] [0])
 (.seq (.block 0
  (.seq (.ops [
    ⟨(some 6), .mv (.t 0), none⟩,
    ⟨(some 7), .bin .lss (.t 6) (.c (.int .i64 0)), none⟩,
    ⟨(some 5), .mv (.t 7), none⟩] [0, 5])
  (.cond (.t 5)
   (.seq (.ops [
     ⟨(some 2), .mv (.c (.int .i64 0)), none⟩,
     ⟨(some 3), .mv (.c (.int .i64 1)), none⟩] [2, 3])
   .ret)
   (.seq (.ops [
     ⟨(some 9), .mv (.t 0), none⟩,
     ⟨(some 10), .bin .geq (.t 9) (.c (.int .i64 65536)), none⟩,
     ⟨(some 8), .mv (.t 10), none⟩] [0, 8])
   (.cond (.t 8)
    (.seq (.ops [
      ⟨(some 2), .mv (.c (.int .i64 0)), none⟩,
      ⟨(some 3), .mv (.c (.int .i64 2)), none⟩] [2, 3])
    .ret)
    .skip)))))
 (.seq (.ops [
   ⟨(some 4), .mv (.c (.int .i64 64)), none⟩] [0, 4])
 (.seq (.block 1
  (.loop
   (.seq (.seq (.ops [
     ⟨(some 11), .mv (.t 4), none⟩,
     ⟨(some 12), .mv (.t 0), none⟩,
     ⟨(some 13), .bin .add (.t 12) (.c (.int .i64 1)), none⟩,
     ⟨(some 14), .bin .lss (.t 11) (.t 13), none⟩] [0, 4, 14])
   (.cond (.t 14)
    .skip
    (.exit 1)))
   (.block 2
    (.ops [
      ⟨(some 15), .mv (.t 4), none⟩,
      ⟨(some 16), .bin .mul (.t 15) (.c (.int .i64 2)), none⟩,
      ⟨(some 4), .mv (.t 16), none⟩] [0, 4])))))
 (.seq (.ops [
   ⟨(some 17), .mv (.t 4), none⟩,
   ⟨(some 2), .mv (.t 17), none⟩,
   ⟨(some 3), .mv (.c (.int .i64 0)), none⟩] [2, 3])
 .ret)))))⟩

def tab : Nat → Option (Hint × AFunc)
  | 1 => some (h_bandboxlaw12_PadBuckets, ir_bandboxlaw12_PadBuckets)
  | 13 => some (h_bandboxlaw12_awake, ir_bandboxlaw12_awake)
  | 14 => some (h_pad_Bucket, ir_pad_Bucket)
  | _ => none
abbrev n_bandboxlaw12_PadBuckets : Nat := 1
abbrev n_bandboxlaw12_awake : Nat := 13
abbrev n_pad_Bucket : Nat := 14
end Go.Bb
