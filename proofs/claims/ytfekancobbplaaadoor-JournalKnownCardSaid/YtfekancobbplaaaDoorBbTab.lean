/- The functions that this claim reaches, in short form; printed by a program of mine. -/
import Derived.Test.YtfekancobbplaaaDoorBbG3
namespace Go.Bb
set_option maxRecDepth 20000
def h_disk_New : Hint := [(0,[0],[]),(1,[0,9],[]),(2,[2,3],[]),(3,[2,3],[])]
def ir_disk_New : AFunc := ⟨1,14,[.tmp 2,.tmp 3],
 (.seq (.ops [
 ⟨some 2,.mv (.c (.pointer none)),none⟩,
 ⟨some 3,.mv (.c (.int .i64 0)),none⟩] [0])
 (.seq (.seq (.ops [
 ⟨some 4,.mv (.t 0),none⟩,
 ⟨some 5,.bin .lss (.t 4) (.c (.int .i64 64)),none⟩,
 ⟨some 6,.mv (.t 5),none⟩,
 ⟨some 7,.mv (.t 0),(some (6,false))⟩,
 ⟨some 8,.bin .gtr (.t 7) (.c (.int .i64 1048576)),(some (6,false))⟩,
 ⟨some 9,.pick (.t 6) (.c (.bool true)) (.t 8),none⟩] [0,9])
 (.cond (.t 9)
 (.seq (.ops [
 ⟨some 2,.mv (.c (.pointer none)),none⟩,
 ⟨some 3,.mv (.c (.int .i64 1)),none⟩] [2,3])
 .ret)
 .skip))
 (.seq (.ops [
 ⟨some 10,.mv (.t 0),none⟩,
 ⟨some 11,.mmap,none⟩,
 ⟨some 12,.build ([.int .i64 0,.map none,.bool false,.int .i64 0]) [(0,1,.t 10),(1,1,.t 11),(2,1,.c (.bool true)),(3,1,.c (.int .i64 1))],none⟩,
 ⟨some 13,.box (.t 12),none⟩,
 ⟨some 2,.mv (.t 13),none⟩,
 ⟨some 3,.mv (.c (.int .i64 0)),none⟩] [2,3])
 .ret)))⟩

def h_disk_Disk_Append : Hint := [(0,[0,1,2],[]),(1,[0,1,2,7],[]),(2,[0,1,2,7,14],[]),(3,[6],[]),(4,[0,1,2,25],[(6,0),(7,0),(0,1),(1,1),(2,1),(3,1),(4,1),(5,1),(8,0),(9,0)]),(5,[6],[]),(6,[0,1,2,32],[]),(7,[0,1,2],[]),(8,[2,8],[]),(9,[],[(5,0),(6,0),(1,1),(2,1),(3,1),(4,1),(7,0),(8,0),(0,2),(9,0),(10,0),(11,0)]),(10,[6],[])]
def ir_disk_Disk_Append_40 : ACode := (.seq (.ops [
 ⟨some 40,.mv (.t 0),none⟩,
 ⟨some 41,.nilc (.t 40),none⟩,
 ⟨some 42,.faddr 1 (.t 41),none⟩,
 ⟨some 43,.load none (.t 42),none⟩,
 ⟨some 44,.mv (.t 1),none⟩,
 ⟨some 45,.lookup .str (.pointer none) false (.t 43) (.t 44),none⟩,
 ⟨some 8,.mv (.t 45),none⟩] [2,8])
 (.seq (.dops [
 ⟨5,some 51,.mv (.t 2),none,0⟩,
 ⟨6,some 52,.call 55 [.t 51],none,0⟩,
 ⟨1,some 47,.mv (.t 8),none,1⟩,
 ⟨2,some 48,.nilc (.t 47),none,1⟩,
 ⟨3,some 49,.faddr 1 (.t 48),none,1⟩,
 ⟨4,some 50,.load none (.t 49),none,1⟩,
 ⟨7,some 53,.bslice 1 1 ([.slice none 0 0]) [(0,1,.t 52)],none,0⟩,
 ⟨8,some 54,.append 1 24 (.t 50) (.t 53),none,0⟩,
 ⟨0,some 46,.mv (.t 8),none,2⟩,
 ⟨9,some 55,.nilc (.t 46),none,0⟩,
 ⟨10,some 56,.faddr 1 (.t 55),none,0⟩,
 ⟨11,none,.store 1 (.t 56) (.t 54),none,0⟩] [])
 (.seq (.ops [
 ⟨some 6,.mv (.c (.int .i64 0)),none⟩] [6])
 .ret)))
def ir_disk_Disk_Append_26 : ACode := (.seq (.seq (.ops [
 ⟨some 26,.mv (.t 0),none⟩,
 ⟨some 27,.nilc (.t 26),none⟩,
 ⟨some 28,.faddr 1 (.t 27),none⟩,
 ⟨some 29,.load none (.t 28),none⟩,
 ⟨some 30,.mv (.t 1),none⟩,
 ⟨some 31,.lookup .str (.pointer none) false (.t 29) (.t 30),none⟩,
 ⟨some 32,.eqv .ptr false (.t 31) (.c (.pointer none)),none⟩] [0,1,2,32])
 (.cond (.t 32)
 (.ops [
 ⟨some 33,.mv (.t 0),none⟩,
 ⟨some 34,.nilc (.t 33),none⟩,
 ⟨some 35,.faddr 1 (.t 34),none⟩,
 ⟨some 36,.load none (.t 35),none⟩,
 ⟨some 37,.mv (.t 1),none⟩,
 ⟨some 38,.build ([.slice none 0 0,.slice none 0 0]) [],none⟩,
 ⟨some 39,.box (.t 38),none⟩,
 ⟨none,.mupd .str (.t 36) (.t 37) (.t 39),none⟩] [0,1,2])
 .skip))
 ir_disk_Disk_Append_40)
def ir_disk_Disk_Append : AFunc := ⟨3,57,[.tmp 6],
 (.seq (.ops [
 ⟨some 6,.mv (.c (.int .i64 0)),none⟩] [0,1,2])
 (.seq (.seq (.ops [
 ⟨some 9,.mv (.t 0),none⟩,
 ⟨some 10,.mv (.t 1),none⟩,
 ⟨some 11,.bslice 1 1 ([.string .empty]) [(0,1,.t 10)],none⟩,
 ⟨some 12,.call 53 [.t 9,.t 11],none⟩,
 ⟨some 7,.mv (.t 12),none⟩] [0,1,2,7])
 (.seq (.ops [
 ⟨some 13,.mv (.t 7),none⟩,
 ⟨some 14,.bin .neq (.t 13) (.c (.int .i64 0)),none⟩] [0,1,2,7,14])
 (.cond (.t 14)
 (.seq (.ops [
 ⟨some 15,.mv (.t 7),none⟩,
 ⟨some 6,.mv (.t 15),none⟩] [6])
 .ret)
 .skip)))
 (.seq (.seq (.dops [
 ⟨6,some 22,.mv (.t 0),none,0⟩,
 ⟨7,some 23,.call 54 [.t 22],none,0⟩,
 ⟨0,some 16,.mv (.t 2),none,1⟩,
 ⟨1,some 17,.lenS (.t 16),none,1⟩,
 ⟨2,some 18,.mv (.t 0),none,1⟩,
 ⟨3,some 19,.nilc (.t 18),none,1⟩,
 ⟨4,some 20,.faddr 0 (.t 19),none,1⟩,
 ⟨5,some 21,.load none (.t 20),none,1⟩,
 ⟨8,some 24,.bin .sub (.t 21) (.t 23),none,0⟩,
 ⟨9,some 25,.bin .gtr (.t 17) (.t 24),none,0⟩] [0,1,2,25])
 (.cond (.t 25)
 (.seq (.ops [
 ⟨some 6,.mv (.c (.int .i64 6)),none⟩] [6])
 .ret)
 .skip))
 ir_disk_Disk_Append_26)))⟩

def h_disk_Disk_Crash : Hint := [(0,[0,1,2,12],[]),(1,[0,1,2,12,14],[]),(2,[0,1,2,7,12],[]),(3,[0,1,2,12],[]),(4,[],[])]
def ir_disk_Disk_Crash : AFunc := ⟨3,24,[],
 (.seq (.seq (.ops [
 ⟨some 8,.mv (.t 0),none⟩,
 ⟨some 9,.nilc (.t 8),none⟩,
 ⟨some 10,.faddr 1 (.t 9),none⟩,
 ⟨some 11,.load none (.t 10),none⟩,
 ⟨some 12,.rangeM (.t 11),none⟩] [0,1,2,12])
 (.block 0 (.loop (.seq (.ops [
 ⟨some 13,.nextM (.t 12),none⟩,
 ⟨some 14,.ext (.t 13) 0,none⟩] [0,1,2,12,14])
 (.seq (.cond (.t 14)
 .skip
 (.exit 0))
 (.block 1 (.seq (.ops [
 ⟨some 15,.entryM (.t 12),none⟩,
 ⟨some 16,.ext (.t 15) 1,none⟩,
 ⟨some 7,.mv (.t 16),none⟩] [0,1,2,7,12])
 (.ops [
 ⟨some 17,.mv (.t 7),none⟩,
 ⟨some 18,.mv (.t 1),none⟩,
 ⟨some 19,.mv (.t 2),none⟩,
 ⟨some 20,.call 56 [.t 17,.t 18,.t 19],none⟩] [0,1,2,12]))))))))
 (.ops [
 ⟨some 21,.mv (.t 0),none⟩,
 ⟨some 22,.nilc (.t 21),none⟩,
 ⟨some 23,.faddr 2 (.t 22),none⟩,
 ⟨none,.store 1 (.t 23) (.c (.bool false)),none⟩] []))⟩

def h_disk_Disk_On : Hint := [(0,[0],[]),(1,[],[])]
def ir_disk_Disk_On : AFunc := ⟨1,12,[],
 (.seq (.ops [
 ⟨some 2,.mv (.t 0),none⟩,
 ⟨some 3,.nilc (.t 2),none⟩,
 ⟨some 4,.faddr 2 (.t 3),none⟩,
 ⟨none,.store 1 (.t 4) (.c (.bool true)),none⟩] [0])
 (.ops [
 ⟨some 5,.mv (.t 0),none⟩,
 ⟨some 6,.nilc (.t 5),none⟩,
 ⟨some 7,.faddr 3 (.t 6),none⟩,
 ⟨some 8,.load none (.t 7),none⟩,
 ⟨some 9,.bin .add (.t 8) (.c (.int .i64 1)),none⟩,
 ⟨some 10,.nilc (.t 5),none⟩,
 ⟨some 11,.faddr 3 (.t 10),none⟩,
 ⟨none,.store 1 (.t 11) (.t 9),none⟩] []))⟩

def h_disk_Disk_Read : Hint := [(0,[0,1],[]),(1,[6,7],[]),(2,[6,7,15],[]),(3,[4,5],[]),(4,[4,5],[])]
def ir_disk_Disk_Read : AFunc := ⟨2,19,[.tmp 4,.tmp 5],
 (.seq (.ops [
 ⟨some 4,.mv (.c (.slice none 0 0)),none⟩,
 ⟨some 5,.mv (.c (.int .i64 0)),none⟩] [0,1])
 (.seq (.ops [
 ⟨some 9,.mv (.t 0),none⟩,
 ⟨some 10,.mv (.t 1),none⟩,
 ⟨some 11,.call 57 [.t 9,.t 10],none⟩,
 ⟨some 8,.mv (.t 11),none⟩,
 ⟨some 12,.ext (.t 8) 0,none⟩,
 ⟨some 13,.ext (.t 8) 1,none⟩,
 ⟨some 6,.mv (.t 12),none⟩,
 ⟨some 7,.mv (.t 13),none⟩] [6,7])
 (.seq (.seq (.ops [
 ⟨some 14,.mv (.t 7),none⟩,
 ⟨some 15,.bin .neq (.t 14) (.c (.int .i64 0)),none⟩] [6,7,15])
 (.cond (.t 15)
 (.seq (.ops [
 ⟨some 16,.mv (.t 7),none⟩,
 ⟨some 4,.mv (.c (.slice none 0 0)),none⟩,
 ⟨some 5,.mv (.t 16),none⟩] [4,5])
 .ret)
 .skip))
 (.seq (.ops [
 ⟨some 17,.mv (.t 6),none⟩,
 ⟨some 18,.call 58 [.t 17],none⟩,
 ⟨some 4,.mv (.t 18),none⟩,
 ⟨some 5,.mv (.c (.int .i64 0)),none⟩] [4,5])
 .ret))))⟩

def h_disk_Disk_Sync : Hint := [(0,[0,1],[]),(1,[5,6],[]),(2,[5,6,14],[]),(3,[6],[]),(4,[4],[])]
def ir_disk_Disk_Sync : AFunc := ⟨2,18,[.tmp 4],
 (.seq (.ops [
 ⟨some 4,.mv (.c (.int .i64 0)),none⟩] [0,1])
 (.seq (.ops [
 ⟨some 8,.mv (.t 0),none⟩,
 ⟨some 9,.mv (.t 1),none⟩,
 ⟨some 10,.call 57 [.t 8,.t 9],none⟩,
 ⟨some 7,.mv (.t 10),none⟩,
 ⟨some 11,.ext (.t 7) 0,none⟩,
 ⟨some 12,.ext (.t 7) 1,none⟩,
 ⟨some 5,.mv (.t 11),none⟩,
 ⟨some 6,.mv (.t 12),none⟩] [5,6])
 (.seq (.seq (.ops [
 ⟨some 13,.mv (.t 6),none⟩,
 ⟨some 14,.bin .eql (.t 13) (.c (.int .i64 0)),none⟩] [5,6,14])
 (.cond (.t 14)
 (.ops [
 ⟨some 15,.mv (.t 5),none⟩,
 ⟨some 16,.call 60 [.t 15],none⟩] [6])
 .skip))
 (.seq (.ops [
 ⟨some 17,.mv (.t 6),none⟩,
 ⟨some 4,.mv (.t 17),none⟩] [4])
 .ret))))⟩

def h_disk_Disk_Lives : Hint := [(0,[0],[]),(1,[2],[])]
def ir_disk_Disk_Lives : AFunc := ⟨1,7,[.tmp 2],
 (.seq (.ops [
 ⟨some 2,.mv (.c (.int .i64 0)),none⟩] [0])
 (.seq (.ops [
 ⟨some 3,.mv (.t 0),none⟩,
 ⟨some 4,.nilc (.t 3),none⟩,
 ⟨some 5,.faddr 3 (.t 4),none⟩,
 ⟨some 6,.load none (.t 5),none⟩,
 ⟨some 2,.mv (.t 6),none⟩] [2])
 .ret))⟩

def h_disk_Disk_Power : Hint := [(0,[0],[]),(1,[2],[])]
def ir_disk_Disk_Power : AFunc := ⟨1,7,[.tmp 2],
 (.seq (.ops [
 ⟨some 2,.mv (.c (.bool false)),none⟩] [0])
 (.seq (.ops [
 ⟨some 3,.mv (.t 0),none⟩,
 ⟨some 4,.nilc (.t 3),none⟩,
 ⟨some 5,.faddr 2 (.t 4),none⟩,
 ⟨some 6,.load none (.t 5),none⟩,
 ⟨some 2,.mv (.t 6),none⟩] [2])
 .ret))⟩

def h_disk_Disk_ask : Hint := [(0,[0,1],[]),(1,[1,11],[]),(2,[4],[]),(3,[12,13,14],[]),(4,[12,13,14,15],[]),(5,[6,12,13,14],[]),(6,[12,13,14,20],[]),(7,[4],[]),(8,[12,13,14],[]),(9,[4],[])]
def ir_disk_Disk_ask_7 : ACode := (.seq (.seq (.ops [
 ⟨some 7,.mv (.t 0),none⟩,
 ⟨some 8,.nilc (.t 7),none⟩,
 ⟨some 9,.faddr 2 (.t 8),none⟩,
 ⟨some 10,.load none (.t 9),none⟩,
 ⟨some 11,.un .not (.t 10),none⟩] [1,11])
 (.cond (.t 11)
 (.seq (.ops [
 ⟨some 4,.mv (.c (.int .i64 7)),none⟩] [4])
 .ret)
 .skip))
 (.seq (.seq (.ops [
 ⟨some 12,.mv (.t 1),none⟩,
 ⟨some 13,.lenS (.t 12),none⟩,
 ⟨some 14,.mv (.c (.int .i64 0)),none⟩] [12,13,14])
 (.block 0 (.loop (.seq (.ops [
 ⟨some 15,.bin .lss (.t 14) (.t 13),none⟩] [12,13,14,15])
 (.seq (.cond (.t 15)
 .skip
 (.exit 0))
 (.seq (.block 1 (.seq (.ops [
 ⟨some 16,.iaddrS 1 (.t 12) (.t 14),none⟩,
 ⟨some 17,.load none (.t 16),none⟩,
 ⟨some 6,.mv (.t 17),none⟩] [6,12,13,14])
 (.seq (.ops [
 ⟨some 18,.mv (.t 6),none⟩,
 ⟨some 19,.call 73 [.t 18],none⟩,
 ⟨some 20,.un .not (.t 19),none⟩] [12,13,14,20])
 (.cond (.t 20)
 (.seq (.ops [
 ⟨some 4,.mv (.c (.int .i64 1)),none⟩] [4])
 .ret)
 .skip))))
 (.ops [
 ⟨some 21,.bin .add (.t 14) (.c (.int .i64 1)),none⟩,
 ⟨some 14,.mv (.t 21),none⟩] [12,13,14])))))))
 (.seq (.ops [
 ⟨some 4,.mv (.c (.int .i64 0)),none⟩] [4])
 .ret)))
def ir_disk_Disk_ask : AFunc := ⟨2,22,[.tmp 4],
 (.seq (.ops [
 ⟨some 4,.mv (.c (.int .i64 0)),none⟩] [0,1])
 ir_disk_Disk_ask_7)⟩

def h_disk_Disk_size : Hint := [(0,[0],[]),(1,[0,3],[]),(2,[3,10],[]),(3,[3,10,12],[]),(4,[3,5,10],[]),(5,[3,10],[]),(6,[2],[])]
def ir_disk_Disk_size : AFunc := ⟨1,20,[.tmp 2],
 (.seq (.ops [
 ⟨some 2,.mv (.c (.int .i64 0)),none⟩] [0])
 (.seq (.ops [
 ⟨some 3,.mv (.c (.int .i64 0)),none⟩] [0,3])
 (.seq (.seq (.ops [
 ⟨some 6,.mv (.t 0),none⟩,
 ⟨some 7,.nilc (.t 6),none⟩,
 ⟨some 8,.faddr 1 (.t 7),none⟩,
 ⟨some 9,.load none (.t 8),none⟩,
 ⟨some 10,.rangeM (.t 9),none⟩] [3,10])
 (.block 0 (.loop (.seq (.ops [
 ⟨some 11,.nextM (.t 10),none⟩,
 ⟨some 12,.ext (.t 11) 0,none⟩] [3,10,12])
 (.seq (.cond (.t 12)
 .skip
 (.exit 0))
 (.block 1 (.seq (.ops [
 ⟨some 13,.entryM (.t 10),none⟩,
 ⟨some 14,.ext (.t 13) 1,none⟩,
 ⟨some 5,.mv (.t 14),none⟩] [3,5,10])
 (.ops [
 ⟨some 15,.mv (.t 3),none⟩,
 ⟨some 16,.mv (.t 5),none⟩,
 ⟨some 17,.call 74 [.t 16],none⟩,
 ⟨some 18,.bin .add (.t 15) (.t 17),none⟩,
 ⟨some 3,.mv (.t 18),none⟩] [3,10]))))))))
 (.seq (.ops [
 ⟨some 19,.mv (.t 3),none⟩,
 ⟨some 2,.mv (.t 19),none⟩] [2])
 .ret))))⟩

def h_slices_Clone_byte_byte : Hint := [(0,[0],[]),(1,[0,4],[]),(2,[2],[]),(3,[2],[])]
def ir_slices_Clone_byte_byte : AFunc := ⟨1,8,[.tmp 2],
 (.seq (.ops [
 ⟨some 2,.mv (.c (.slice none 0 0)),none⟩] [0])
 (.seq (.seq (.ops [
 ⟨some 3,.mv (.t 0),none⟩,
 ⟨some 4,.eqv .slice false (.t 3) (.c (.slice none 0 0)),none⟩] [0,4])
 (.cond (.t 4)
 (.seq (.ops [
 ⟨some 2,.mv (.c (.slice none 0 0)),none⟩] [2])
 .ret)
 .skip))
 (.seq (.ops [
 ⟨some 5,.bslice 0 1 ([.int .u8 0]) [],none⟩,
 ⟨some 6,.mv (.t 0),none⟩,
 ⟨some 7,.append 1 1 (.t 5) (.t 6),none⟩,
 ⟨some 2,.mv (.t 7),none⟩] [2])
 .ret)))⟩

def h_disk_file_crash : Hint := [(0,[0,2,4],[]),(1,[0,2,4,6],[]),(2,[0,2,6,7],[]),(3,[0,2,6,7,16,17],[]),(4,[0,2,6,7,16,17,18],[]),(5,[0,2,6,7,8,16,17],[]),(6,[0,2,6,7,8,16,17,22],[]),(7,[0,2,6,7,16,17],[]),(8,[0,2,6,7,16,17],[]),(9,[0,2,6,7,26,27],[]),(10,[0,2,6,7,26,27,28],[]),(11,[0,2,6,7,9,26,27],[]),(12,[0,2,6,7,9,10,26,27],[]),(13,[0,2,6,7,9,10,26,27,37],[]),(14,[0,2,6,7,10,26,27],[]),(15,[0,2,6,7,10,26,27,45],[]),(16,[0,2,6,7,10,26,27],[]),(17,[0,2,6,7,26,27],[]),(18,[0,2,6,7,26,27],[]),(19,[],[])]
def ir_disk_file_crash_q : ACode := (.cond (.t 37)
 (.ops [
 ⟨some 42,.mv (.t 10),none⟩,
 ⟨some 43,.lenS (.t 42),none⟩,
 ⟨some 44,.mslice 1 ([.int .u8 0]) (.t 43) (.t 43),none⟩,
 ⟨some 10,.mv (.t 44),none⟩] [0,2,6,7,10,26,27])
 (.seq (.ops [
 ⟨some 46,.mv (.t 9),none⟩,
 ⟨some 47,.mv (.t 6),none⟩,
 ⟨some 48,.bin .eql (.t 46) (.t 47),none⟩,
 ⟨some 49,.mv (.t 48),none⟩,
 ⟨some 50,.mv (.t 2),(some (49,true))⟩,
 ⟨some 51,.bin .gtr (.t 50) (.c (.int .i64 0)),(some (49,true))⟩,
 ⟨some 52,.pick (.t 49) (.t 51) (.c (.bool false)),none⟩,
 ⟨some 45,.mv (.t 52),none⟩] [0,2,6,7,10,26,27,45])
 (.cond (.t 45)
 (.ops [
 ⟨some 53,.mv (.t 10),none⟩,
 ⟨some 54,.mv (.t 10),none⟩,
 ⟨some 55,.lenS (.t 54),none⟩,
 ⟨some 56,.mv (.t 2),none⟩,
 ⟨some 57,.mv (.t 10),none⟩,
 ⟨some 58,.lenS (.t 57),none⟩,
 ⟨some 59,.mn (.t 56) (.t 58),none⟩,
 ⟨some 60,.bin .sub (.t 55) (.t 59),none⟩,
 ⟨some 61,.slSl 1 (.t 53) none (some (.t 60)) none,none⟩,
 ⟨some 10,.mv (.t 61),none⟩] [0,2,6,7,10,26,27])
 .skip)))
def ir_disk_file_crash_29 : ACode := (.seq (.block 3 (.seq (.ops [
 ⟨some 29,.mv (.t 27),none⟩,
 ⟨some 9,.mv (.t 29),none⟩] [0,2,6,7,9,26,27])
 (.seq (.ops [
 ⟨some 30,.mv (.t 0),none⟩,
 ⟨some 31,.nilc (.t 30),none⟩,
 ⟨some 32,.faddr 1 (.t 31),none⟩,
 ⟨some 33,.load none (.t 32),none⟩,
 ⟨some 34,.mv (.t 9),none⟩,
 ⟨some 35,.iaddrS 1 (.t 33) (.t 34),none⟩,
 ⟨some 36,.load none (.t 35),none⟩,
 ⟨some 10,.mv (.t 36),none⟩] [0,2,6,7,9,10,26,27])
 (.seq (.block 4 (.seq (.ops [
 ⟨some 38,.mv (.t 7),none⟩,
 ⟨some 39,.mv (.t 9),none⟩,
 ⟨some 40,.callv (.t 38) [.t 39],none⟩,
 ⟨some 41,.un .not (.t 40),none⟩,
 ⟨some 37,.mv (.t 41),none⟩] [0,2,6,7,9,10,26,27,37])
 ir_disk_file_crash_q))
 (.ops [
 ⟨some 62,.mv (.t 0),none⟩,
 ⟨some 63,.mv (.t 0),none⟩,
 ⟨some 64,.nilc (.t 63),none⟩,
 ⟨some 65,.faddr 0 (.t 64),none⟩,
 ⟨some 66,.load none (.t 65),none⟩,
 ⟨some 67,.mv (.t 10),none⟩,
 ⟨some 68,.append 1 1 (.t 66) (.t 67),none⟩,
 ⟨some 69,.nilc (.t 62),none⟩,
 ⟨some 70,.faddr 0 (.t 69),none⟩,
 ⟨none,.store 1 (.t 70) (.t 68),none⟩] [0,2,6,7,26,27])))))
 (.ops [
 ⟨some 71,.bin .add (.t 27) (.c (.int .i64 1)),none⟩,
 ⟨some 27,.mv (.t 71),none⟩] [0,2,6,7,26,27]))
def ir_disk_file_crash_25 : ACode := (.seq (.seq (.ops [
 ⟨some 25,.mv (.t 6),none⟩,
 ⟨some 26,.bin .add (.t 25) (.c (.int .i64 1)),none⟩,
 ⟨some 27,.mv (.c (.int .i64 0)),none⟩] [0,2,6,7,26,27])
 (.block 2 (.loop (.seq (.ops [
 ⟨some 28,.bin .lss (.t 27) (.t 26),none⟩] [0,2,6,7,26,27,28])
 (.seq (.cond (.t 28)
 .skip
 (.exit 2))
 ir_disk_file_crash_29)))))
 (.ops [
 ⟨some 72,.mv (.t 0),none⟩,
 ⟨some 73,.nilc (.t 72),none⟩,
 ⟨some 74,.faddr 1 (.t 73),none⟩,
 ⟨none,.store 1 (.t 74) (.c (.slice none 0 0)),none⟩] []))
def ir_disk_file_crash : AFunc := ⟨3,75,[],
 (.seq (.ops [
 ⟨some 4,.box (.t 1),none⟩] [0,2,4])
 (.seq (.ops [
 ⟨some 6,.mv (.c (.int .i64 (-1))),none⟩] [0,2,4,6])
 (.seq (.ops [
 ⟨some 11,.fn 75 [] [.t 4],none⟩,
 ⟨some 7,.mv (.t 11),none⟩] [0,2,6,7])
 (.seq (.seq (.ops [
 ⟨some 12,.mv (.t 0),none⟩,
 ⟨some 13,.nilc (.t 12),none⟩,
 ⟨some 14,.faddr 1 (.t 13),none⟩,
 ⟨some 15,.load none (.t 14),none⟩,
 ⟨some 16,.lenS (.t 15),none⟩,
 ⟨some 17,.mv (.c (.int .i64 0)),none⟩] [0,2,6,7,16,17])
 (.block 0 (.loop (.seq (.ops [
 ⟨some 18,.bin .lss (.t 17) (.t 16),none⟩] [0,2,6,7,16,17,18])
 (.seq (.cond (.t 18)
 .skip
 (.exit 0))
 (.seq (.block 1 (.seq (.ops [
 ⟨some 19,.mv (.t 17),none⟩,
 ⟨some 8,.mv (.t 19),none⟩] [0,2,6,7,8,16,17])
 (.seq (.ops [
 ⟨some 20,.mv (.t 7),none⟩,
 ⟨some 21,.mv (.t 8),none⟩,
 ⟨some 22,.callv (.t 20) [.t 21],none⟩] [0,2,6,7,8,16,17,22])
 (.cond (.t 22)
 (.ops [
 ⟨some 23,.mv (.t 8),none⟩,
 ⟨some 6,.mv (.t 23),none⟩] [0,2,6,7,16,17])
 .skip))))
 (.ops [
 ⟨some 24,.bin .add (.t 17) (.c (.int .i64 1)),none⟩,
 ⟨some 17,.mv (.t 24),none⟩] [0,2,6,7,16,17])))))))
 ir_disk_file_crash_25))))⟩

def h_disk_Disk_find : Hint := [(0,[0,1],[]),(1,[0,1,6],[]),(2,[0,1,6,14],[]),(3,[4,5],[]),(4,[7,8],[]),(5,[7,26],[]),(6,[4,5],[]),(7,[4,5],[])]
def ir_disk_Disk_find_17 : ACode := (.seq (.ops [
 ⟨some 17,.mv (.t 0),none⟩,
 ⟨some 18,.nilc (.t 17),none⟩,
 ⟨some 19,.faddr 1 (.t 18),none⟩,
 ⟨some 20,.load none (.t 19),none⟩,
 ⟨some 21,.mv (.t 1),none⟩,
 ⟨some 22,.lookup .str (.pointer none) true (.t 20) (.t 21),none⟩,
 ⟨some 16,.mv (.t 22),none⟩,
 ⟨some 23,.ext (.t 16) 0,none⟩,
 ⟨some 24,.ext (.t 16) 1,none⟩,
 ⟨some 7,.mv (.t 23),none⟩,
 ⟨some 8,.mv (.t 24),none⟩] [7,8])
 (.seq (.seq (.ops [
 ⟨some 25,.mv (.t 8),none⟩,
 ⟨some 26,.un .not (.t 25),none⟩] [7,26])
 (.cond (.t 26)
 (.seq (.ops [
 ⟨some 4,.mv (.c (.pointer none)),none⟩,
 ⟨some 5,.mv (.c (.int .i64 4)),none⟩] [4,5])
 .ret)
 .skip))
 (.seq (.ops [
 ⟨some 27,.mv (.t 7),none⟩,
 ⟨some 4,.mv (.t 27),none⟩,
 ⟨some 5,.mv (.c (.int .i64 0)),none⟩] [4,5])
 .ret)))
def ir_disk_Disk_find : AFunc := ⟨2,28,[.tmp 4,.tmp 5],
 (.seq (.ops [
 ⟨some 4,.mv (.c (.pointer none)),none⟩,
 ⟨some 5,.mv (.c (.int .i64 0)),none⟩] [0,1])
 (.seq (.seq (.ops [
 ⟨some 9,.mv (.t 0),none⟩,
 ⟨some 10,.mv (.t 1),none⟩,
 ⟨some 11,.bslice 1 1 ([.string .empty]) [(0,1,.t 10)],none⟩,
 ⟨some 12,.call 53 [.t 9,.t 11],none⟩,
 ⟨some 6,.mv (.t 12),none⟩] [0,1,6])
 (.seq (.ops [
 ⟨some 13,.mv (.t 6),none⟩,
 ⟨some 14,.bin .neq (.t 13) (.c (.int .i64 0)),none⟩] [0,1,6,14])
 (.cond (.t 14)
 (.seq (.ops [
 ⟨some 15,.mv (.t 6),none⟩,
 ⟨some 4,.mv (.c (.pointer none)),none⟩,
 ⟨some 5,.mv (.t 15),none⟩] [4,5])
 .ret)
 .skip)))
 ir_disk_Disk_find_17))⟩

def h_disk_file_all : Hint := [(0,[0],[]),(1,[2],[(0,0),(1,0),(2,0),(3,0),(4,0),(5,1),(6,1),(7,1),(8,1),(9,0),(10,0),(11,0)])]
def ir_disk_file_all : AFunc := ⟨1,14,[.tmp 2],
 (.seq (.ops [
 ⟨some 2,.mv (.c (.slice none 0 0)),none⟩] [0])
 (.seq (.dops [
 ⟨0,some 3,.mv (.t 0),none,0⟩,
 ⟨1,some 4,.nilc (.t 3),none,0⟩,
 ⟨2,some 5,.faddr 0 (.t 4),none,0⟩,
 ⟨3,some 6,.load none (.t 5),none,0⟩,
 ⟨4,some 7,.call 55 [.t 6],none,0⟩,
 ⟨5,some 8,.mv (.t 0),none,1⟩,
 ⟨6,some 9,.nilc (.t 8),none,1⟩,
 ⟨7,some 10,.faddr 1 (.t 9),none,1⟩,
 ⟨8,some 11,.load none (.t 10),none,1⟩,
 ⟨9,some 12,.call 64 [.t 11],none,0⟩,
 ⟨10,some 13,.append 1 1 (.t 7) (.t 12),none,0⟩,
 ⟨11,some 2,.mv (.t 13),none,0⟩] [2])
 .ret))⟩

def h_disk_file_sync : Hint := [(0,[],[])]
def ir_disk_file_sync : AFunc := ⟨1,10,[],
 (.ops [
 ⟨some 2,.mv (.t 0),none⟩,
 ⟨some 3,.mv (.t 0),none⟩,
 ⟨some 4,.mv (.t 0),none⟩,
 ⟨some 5,.call 58 [.t 4],none⟩,
 ⟨some 6,.nilc (.t 2),none⟩,
 ⟨some 7,.faddr 0 (.t 6),none⟩,
 ⟨none,.store 1 (.t 7) (.t 5),none⟩,
 ⟨some 8,.nilc (.t 3),none⟩,
 ⟨some 9,.faddr 1 (.t 8),none⟩,
 ⟨none,.store 1 (.t 9) (.c (.slice none 0 0)),none⟩] [])⟩

def h_octet_Big : Hint := [(0,[0,1,2],[]),(1,[1,2,7],[]),(2,[1,7,8],[]),(3,[1,7,8,16],[]),(4,[1,7,8],[]),(5,[1,7,8],[]),(6,[6],[])]
def ir_octet_Big : AFunc := ⟨3,28,[.tmp 6],
 (.seq (.ops [
 ⟨some 6,.mv (.c (.slice none 0 0)),none⟩] [0,1,2])
 (.seq (.ops [
 ⟨some 9,.mv (.t 0),none⟩,
 ⟨some 10,.call 55 [.t 9],none⟩,
 ⟨some 7,.mv (.t 10),none⟩] [1,2,7])
 (.seq (.seq (.ops [
 ⟨some 11,.mv (.t 2),none⟩,
 ⟨some 12,.mn (.t 11) (.c (.int .i64 8)),none⟩,
 ⟨some 13,.mx (.t 12) (.c (.int .i64 0)),none⟩,
 ⟨some 14,.bin .sub (.t 13) (.c (.int .i64 1)),none⟩,
 ⟨some 8,.mv (.t 14),none⟩] [1,7,8])
 (.block 0
 (.loop
 (.seq (.seq (.ops [
 ⟨some 15,.mv (.t 8),none⟩,
 ⟨some 16,.bin .geq (.t 15) (.c (.int .i64 0)),none⟩] [1,7,8,16])
 (.cond (.t 16)
 .skip
 (.exit 0)))
 (.seq (.block 1
 (.ops [
 ⟨some 19,.mv (.t 7),none⟩,
 ⟨some 20,.mv (.t 1),none⟩,
 ⟨some 21,.mv (.t 8),none⟩,
 ⟨some 22,.bin .mul (.c (.int .i64 8)) (.t 21),none⟩,
 ⟨some 23,.bin .shr (.t 20) (.t 22),none⟩,
 ⟨some 24,.conv .u8 (.t 23),none⟩,
 ⟨some 25,.bslice 1 1 ([.int .u8 0]) [(0,1,.t 24)],none⟩,
 ⟨some 26,.append 1 1 (.t 19) (.t 25),none⟩,
 ⟨some 7,.mv (.t 26),none⟩] [1,7,8]))
 (.ops [
 ⟨some 17,.mv (.t 8),none⟩,
 ⟨some 18,.bin .sub (.t 17) (.c (.int .i64 1)),none⟩,
 ⟨some 8,.mv (.t 18),none⟩] [1,7,8]))))))
 (.seq (.ops [
 ⟨some 27,.mv (.t 7),none⟩,
 ⟨some 6,.mv (.t 27),none⟩] [6])
 .ret))))⟩

def h_sha_Of : Hint := [(0,[0,2],[]),(1,[0,2,3],[]),(2,[2,3,7,8,9],[]),(3,[2,3,7,8,9,10],[]),(4,[2,3,5,7,8,9],[]),(5,[2,3,7,8,9],[]),(6,[2,3,7,8,9],[]),(7,[2],[])]
def ir_sha_Of : AFunc := ⟨1,19,[.cell 2 (some 32)],
 (.seq (.ops [
 ⟨some 2,.alloc (List.replicate 32 (.int .u8 0)),none⟩] [0,2])
 (.seq (.ops [
 ⟨some 6,.call 76 [],none⟩,
 ⟨some 3,.mv (.t 6),none⟩] [0,2,3])
 (.seq (.seq (.ops [
 ⟨some 7,.mv (.t 0),none⟩,
 ⟨some 8,.lenS (.t 7),none⟩,
 ⟨some 9,.mv (.c (.int .i64 0)),none⟩] [2,3,7,8,9])
 (.block 0
 (.loop
 (.seq (.ops [
 ⟨some 10,.bin .lss (.t 9) (.t 8),none⟩] [2,3,7,8,9,10])
 (.seq (.cond (.t 10)
 .skip
 (.exit 0))
 (.seq (.block 1
 (.seq (.ops [
 ⟨some 11,.iaddrS 1 (.t 7) (.t 9),none⟩,
 ⟨some 12,.load none (.t 11),none⟩,
 ⟨some 5,.mv (.t 12),none⟩] [2,3,5,7,8,9])
 (.ops [
 ⟨some 13,.mv (.t 3),none⟩,
 ⟨some 14,.mv (.t 5),none⟩,
 ⟨some 15,.call 77 [.t 13,.t 14],none⟩] [2,3,7,8,9])))
 (.ops [
 ⟨some 16,.bin .add (.t 9) (.c (.int .i64 1)),none⟩,
 ⟨some 9,.mv (.t 16),none⟩] [2,3,7,8,9])))))))
 (.seq (.ops [
 ⟨some 17,.mv (.t 3),none⟩,
 ⟨some 18,.call 78 [.t 17],none⟩,
 ⟨none,.store 32 (.t 2) (.t 18),none⟩] [2])
 .ret))))⟩

def h_slices_Concat_byte_byte : Hint := [(0,[0],[]),(1,[0,3],[]),(2,[0,3,9,10,11],[]),(3,[0,3,9,10,11,12],[]),(4,[0,3,5,9,10,11],[]),(5,[0,3,9,10,11],[]),(6,[0,3,9,10,11,20],[]),(7,[0,3,9,10,11],[]),(8,[0,3,9,10,11],[]),(9,[0,6],[]),(10,[6,25,26,27],[]),(11,[6,25,26,27,28],[]),(12,[6,8,25,26,27],[]),(13,[6,25,26,27],[]),(14,[6,25,26,27],[]),(15,[2],[])]
def ir_slices_Concat_byte_byte : AFunc := ⟨1,36,[.tmp 2],
 (.seq (.ops [
 ⟨some 2,.mv (.c (.slice none 0 0)),none⟩] [0])
 (.seq (.ops [
 ⟨some 3,.mv (.c (.int .i64 0)),none⟩] [0,3])
 (.seq (.seq (.ops [
 ⟨some 9,.mv (.t 0),none⟩,
 ⟨some 10,.lenS (.t 9),none⟩,
 ⟨some 11,.mv (.c (.int .i64 0)),none⟩] [0,3,9,10,11])
 (.block 0
 (.loop
 (.seq (.ops [
 ⟨some 12,.bin .lss (.t 11) (.t 10),none⟩] [0,3,9,10,11,12])
 (.seq (.cond (.t 12)
 .skip
 (.exit 0))
 (.seq (.block 1
 (.seq (.ops [
 ⟨some 13,.iaddrS 1 (.t 9) (.t 11),none⟩,
 ⟨some 14,.load none (.t 13),none⟩,
 ⟨some 5,.mv (.t 14),none⟩] [0,3,5,9,10,11])
 (.seq (.ops [
 ⟨some 15,.mv (.t 3),none⟩,
 ⟨some 16,.mv (.t 5),none⟩,
 ⟨some 17,.lenS (.t 16),none⟩,
 ⟨some 18,.bin .add (.t 15) (.t 17),none⟩,
 ⟨some 3,.mv (.t 18),none⟩] [0,3,9,10,11])
 (.seq (.ops [
 ⟨some 19,.mv (.t 3),none⟩,
 ⟨some 20,.bin .lss (.t 19) (.c (.int .i64 0)),none⟩] [0,3,9,10,11,20])
 (.cond (.t 20)
 (.ops [
 ⟨some 21,.bad,none⟩,
 ⟨none,.bad,none⟩] [0,3,9,10,11])
 .skip)))))
 (.ops [
 ⟨some 22,.bin .add (.t 11) (.c (.int .i64 1)),none⟩,
 ⟨some 11,.mv (.t 22),none⟩] [0,3,9,10,11])))))))
 (.seq (.ops [
 ⟨some 23,.mv (.t 3),none⟩,
 ⟨some 24,.call 80 [.c (.slice none 0 0),.t 23],none⟩,
 ⟨some 6,.mv (.t 24),none⟩] [0,6])
 (.seq (.seq (.ops [
 ⟨some 25,.mv (.t 0),none⟩,
 ⟨some 26,.lenS (.t 25),none⟩,
 ⟨some 27,.mv (.c (.int .i64 0)),none⟩] [6,25,26,27])
 (.block 2
 (.loop
 (.seq (.ops [
 ⟨some 28,.bin .lss (.t 27) (.t 26),none⟩] [6,25,26,27,28])
 (.seq (.cond (.t 28)
 .skip
 (.exit 2))
 (.seq (.block 3
 (.seq (.ops [
 ⟨some 29,.iaddrS 1 (.t 25) (.t 27),none⟩,
 ⟨some 30,.load none (.t 29),none⟩,
 ⟨some 8,.mv (.t 30),none⟩] [6,8,25,26,27])
 (.ops [
 ⟨some 31,.mv (.t 6),none⟩,
 ⟨some 32,.mv (.t 8),none⟩,
 ⟨some 33,.append 1 1 (.t 31) (.t 32),none⟩,
 ⟨some 6,.mv (.t 33),none⟩] [6,25,26,27])))
 (.ops [
 ⟨some 34,.bin .add (.t 27) (.c (.int .i64 1)),none⟩,
 ⟨some 27,.mv (.t 34),none⟩] [6,25,26,27])))))))
 (.seq (.ops [
 ⟨some 35,.mv (.t 6),none⟩,
 ⟨some 2,.mv (.t 35),none⟩] [2])
 .ret))))))⟩

def h_disk_good : Hint := [(0,[0],[]),(1,[0,5,6],[]),(2,[0,5,6,7],[]),(3,[0,3,5,6],[]),(4,[0,5,6,18],[]),(5,[2],[]),(6,[0,5,6],[]),(7,[2],[])]
def ir_disk_good_20 : ACode := (.seq (.ops [
 ⟨some 20,.mv (.t 0),none⟩,
 ⟨some 21,.lenStr (.t 20),none⟩,
 ⟨some 22,.bin .geq (.t 21) (.c (.int .i64 1)),none⟩,
 ⟨some 23,.mv (.t 22),none⟩,
 ⟨some 24,.mv (.t 0),(some (23,true))⟩,
 ⟨some 25,.lenStr (.t 24),(some (23,true))⟩,
 ⟨some 26,.bin .leq (.t 25) (.c (.int .i64 20)),(some (23,true))⟩,
 ⟨some 27,.pick (.t 23) (.t 26) (.c (.bool false)),none⟩,
 ⟨some 2,.mv (.t 27),none⟩] [2])
 .ret)
def ir_disk_good : AFunc := ⟨1,28,[.tmp 2],
 (.seq (.ops [
 ⟨some 2,.mv (.c (.bool false)),none⟩] [0])
 (.seq (.seq (.ops [
 ⟨some 4,.mv (.t 0),none⟩,
 ⟨some 5,.lenStr (.t 4),none⟩,
 ⟨some 6,.mv (.c (.int .i64 0)),none⟩] [0,5,6])
 (.block 0 (.loop (.seq (.ops [
 ⟨some 7,.bin .lss (.t 6) (.t 5),none⟩] [0,5,6,7])
 (.seq (.cond (.t 7)
 .skip
 (.exit 0))
 (.seq (.block 1 (.seq (.ops [
 ⟨some 8,.mv (.t 6),none⟩,
 ⟨some 3,.mv (.t 8),none⟩] [0,3,5,6])
 (.seq (.ops [
 ⟨some 9,.mv (.t 0),none⟩,
 ⟨some 10,.mv (.t 3),none⟩,
 ⟨some 11,.idxS (.t 9) (.t 10),none⟩,
 ⟨some 12,.bin .lss (.t 11) (.c (.int .u8 33)),none⟩,
 ⟨some 13,.mv (.t 12),none⟩,
 ⟨some 14,.mv (.t 0),(some (13,false))⟩,
 ⟨some 15,.mv (.t 3),(some (13,false))⟩,
 ⟨some 16,.idxS (.t 14) (.t 15),(some (13,false))⟩,
 ⟨some 17,.bin .gtr (.t 16) (.c (.int .u8 126)),(some (13,false))⟩,
 ⟨some 18,.pick (.t 13) (.c (.bool true)) (.t 17),none⟩] [0,5,6,18])
 (.cond (.t 18)
 (.seq (.ops [
 ⟨some 2,.mv (.c (.bool false)),none⟩] [2])
 .ret)
 .skip))))
 (.ops [
 ⟨some 19,.bin .add (.t 6) (.c (.int .i64 1)),none⟩,
 ⟨some 6,.mv (.t 19),none⟩] [0,5,6])))))))
 ir_disk_good_20))⟩

def h_disk_file_size : Hint := [(0,[0],[]),(1,[0,3],[]),(2,[3,14,15,16],[]),(3,[3,14,15,16,17],[]),(4,[3,5,14,15,16],[]),(5,[3,14,15,16],[]),(6,[3,14,15,16],[]),(7,[2],[])]
def ir_disk_file_size_6 : ACode := (.seq (.ops [
 ⟨some 6,.mv (.t 0),none⟩,
 ⟨some 7,.nilc (.t 6),none⟩,
 ⟨some 8,.faddr 0 (.t 7),none⟩,
 ⟨some 9,.load none (.t 8),none⟩,
 ⟨some 10,.lenS (.t 9),none⟩,
 ⟨some 3,.mv (.t 10),none⟩] [0,3])
 (.seq (.seq (.ops [
 ⟨some 11,.mv (.t 0),none⟩,
 ⟨some 12,.nilc (.t 11),none⟩,
 ⟨some 13,.faddr 1 (.t 12),none⟩,
 ⟨some 14,.load none (.t 13),none⟩,
 ⟨some 15,.lenS (.t 14),none⟩,
 ⟨some 16,.mv (.c (.int .i64 0)),none⟩] [3,14,15,16])
 (.block 0 (.loop (.seq (.ops [
 ⟨some 17,.bin .lss (.t 16) (.t 15),none⟩] [3,14,15,16,17])
 (.seq (.cond (.t 17)
 .skip
 (.exit 0))
 (.seq (.block 1 (.seq (.ops [
 ⟨some 18,.iaddrS 1 (.t 14) (.t 16),none⟩,
 ⟨some 19,.load none (.t 18),none⟩,
 ⟨some 5,.mv (.t 19),none⟩] [3,5,14,15,16])
 (.ops [
 ⟨some 20,.mv (.t 3),none⟩,
 ⟨some 21,.mv (.t 5),none⟩,
 ⟨some 22,.lenS (.t 21),none⟩,
 ⟨some 23,.bin .add (.t 20) (.t 22),none⟩,
 ⟨some 3,.mv (.t 23),none⟩] [3,14,15,16])))
 (.ops [
 ⟨some 24,.bin .add (.t 16) (.c (.int .i64 1)),none⟩,
 ⟨some 16,.mv (.t 24),none⟩] [3,14,15,16])))))))
 (.seq (.ops [
 ⟨some 25,.mv (.t 3),none⟩,
 ⟨some 2,.mv (.t 25),none⟩] [2])
 .ret)))
def ir_disk_file_size : AFunc := ⟨1,26,[.tmp 2],
 (.seq (.ops [
 ⟨some 2,.mv (.c (.int .i64 0)),none⟩] [0])
 ir_disk_file_size_6)⟩

def h_disk_file_crash_1 : Hint := [(0,[0,1],[]),(1,[3],[])]
def ir_disk_file_crash_1 : AFunc := ⟨1,10,[.tmp 3],
 (.seq (.ops [
 ⟨some 3,.mv (.c (.bool false)),none⟩] [0,1])
 (.seq (.ops [
 ⟨some 4,.load none (.t 1),none⟩,
 ⟨some 5,.mv (.t 0),none⟩,
 ⟨some 6,.mn (.t 5) (.c (.int .i64 63)),none⟩,
 ⟨some 7,.bin .shr (.t 4) (.t 6),none⟩,
 ⟨some 8,.bin .and (.t 7) (.c (.int .u64 1)),none⟩,
 ⟨some 9,.bin .eql (.t 8) (.c (.int .u64 1)),none⟩,
 ⟨some 3,.mv (.t 9),none⟩] [3])
 .ret))⟩

def h_sha_New : Hint := [(0,[],[]),(1,[0],[])]
def ir_sha_New : AFunc := ⟨0,5,[.tmp 0],
 (.seq (.ops [
 ⟨some 0,.mv (.c (.pointer none)),none⟩] [])
 (.seq (.ops [
 ⟨some 1,.call 84 [],none⟩,
 ⟨some 2,.call 85 [],none⟩,
 ⟨some 3,.build ((List.replicate 72 (.int .u32 0) ++ [.slice none 0 0,.int .i64 0])) [(0,8,.t 1),(8,64,.t 2)],none⟩,
 ⟨some 4,.box (.t 3),none⟩,
 ⟨some 0,.mv (.t 4),none⟩] [0])
 .ret))⟩

def h_sha_Sum_Add : Hint := [(0,[0,1],[]),(1,[0],[]),(2,[0,27],[]),(3,[0],[(1,0),(2,0),(3,0),(4,0),(5,0),(6,0),(7,0),(8,0),(9,0),(10,0),(11,0),(12,0),(13,0),(0,1),(14,0),(15,0),(16,0)]),(4,[0],[])]
def ir_sha_Sum_Add : AFunc := ⟨2,52,[],
 (.seq (.ops [
 ⟨some 4,.mv (.t 0),none⟩,
 ⟨some 5,.nilc (.t 4),none⟩,
 ⟨some 6,.faddr 73 (.t 5),none⟩,
 ⟨some 7,.load none (.t 6),none⟩,
 ⟨some 8,.mv (.t 1),none⟩,
 ⟨some 9,.lenS (.t 8),none⟩,
 ⟨some 10,.bin .add (.t 7) (.t 9),none⟩,
 ⟨some 11,.nilc (.t 4),none⟩,
 ⟨some 12,.faddr 73 (.t 11),none⟩,
 ⟨none,.store 1 (.t 12) (.t 10),none⟩] [0,1])
 (.seq (.ops [
 ⟨some 13,.mv (.t 0),none⟩,
 ⟨some 14,.mv (.t 0),none⟩,
 ⟨some 15,.nilc (.t 14),none⟩,
 ⟨some 16,.faddr 72 (.t 15),none⟩,
 ⟨some 17,.load none (.t 16),none⟩,
 ⟨some 18,.mv (.t 1),none⟩,
 ⟨some 19,.append 1 1 (.t 17) (.t 18),none⟩,
 ⟨some 20,.nilc (.t 13),none⟩,
 ⟨some 21,.faddr 72 (.t 20),none⟩,
 ⟨none,.store 1 (.t 21) (.t 19),none⟩] [0])
 (.block 0
 (.loop
 (.seq (.seq (.ops [
 ⟨some 22,.mv (.t 0),none⟩,
 ⟨some 23,.nilc (.t 22),none⟩,
 ⟨some 24,.faddr 72 (.t 23),none⟩,
 ⟨some 25,.load none (.t 24),none⟩,
 ⟨some 26,.lenS (.t 25),none⟩,
 ⟨some 27,.bin .geq (.t 26) (.c (.int .i64 64)),none⟩] [0,27])
 (.cond (.t 27)
 .skip
 (.exit 0)))
 (.block 1
 (.seq (.dops [
 ⟨1,some 29,.mv (.t 0),none,0⟩,
 ⟨2,some 30,.nilc (.t 29),none,0⟩,
 ⟨3,some 31,.faddr 0 (.t 30),none,0⟩,
 ⟨4,some 32,.load (some 8) (.t 31),none,0⟩,
 ⟨5,some 33,.mv (.t 0),none,0⟩,
 ⟨6,some 34,.nilc (.t 33),none,0⟩,
 ⟨7,some 35,.faddr 72 (.t 34),none,0⟩,
 ⟨8,some 36,.load none (.t 35),none,0⟩,
 ⟨9,some 37,.slSl 1 (.t 36) none (some (.c (.int .i64 64))) none,none,0⟩,
 ⟨10,some 38,.mv (.t 0),none,0⟩,
 ⟨11,some 39,.nilc (.t 38),none,0⟩,
 ⟨12,some 40,.faddr 8 (.t 39),none,0⟩,
 ⟨13,some 41,.call 86 [.t 32,.t 37,.t 40],none,0⟩,
 ⟨0,some 28,.mv (.t 0),none,1⟩,
 ⟨14,some 42,.nilc (.t 28),none,0⟩,
 ⟨15,some 43,.faddr 0 (.t 42),none,0⟩,
 ⟨16,none,.store 8 (.t 43) (.t 41),none,0⟩] [0])
 (.ops [
 ⟨some 44,.mv (.t 0),none⟩,
 ⟨some 45,.mv (.t 0),none⟩,
 ⟨some 46,.nilc (.t 45),none⟩,
 ⟨some 47,.faddr 72 (.t 46),none⟩,
 ⟨some 48,.load none (.t 47),none⟩,
 ⟨some 49,.slSl 1 (.t 48) (some (.c (.int .i64 64))) none none,none⟩,
 ⟨some 50,.nilc (.t 44),none⟩,
 ⟨some 51,.faddr 72 (.t 50),none⟩,
 ⟨none,.store 1 (.t 51) (.t 49),none⟩] [0]))))))))⟩

def h_sha_Sum_Word : Hint := [(0,[0,2],[]),(1,[0,2,3],[(0,0),(1,0),(2,0),(3,0),(4,0),(5,0),(6,0),(7,0),(8,0),(9,0),(10,0)]),(2,[0,2,3],[]),(3,[2,3],[]),(4,[2,3,4],[]),(5,[2,4,33,34],[]),(6,[2,4,33,34,35],[]),(7,[2,4,5,6,33,34],[]),(8,[2,4,33,34],[(3,0),(4,0),(5,0),(0,1),(1,1),(2,1),(6,0)]),(9,[2,4,33,34],[]),(10,[2],[])]
def ir_sha_Sum_Word : AFunc := ⟨1,47,[.cell 2 (some 32)],
 (.seq (.ops [
 ⟨some 2,.alloc (List.replicate 32 (.int .u8 0)),none⟩] [0,2])
 (.seq (.dops [
 ⟨0,some 7,.mv (.t 0),none,0⟩,
 ⟨1,some 8,.nilc (.t 7),none,0⟩,
 ⟨2,some 9,.faddr 0 (.t 8),none,0⟩,
 ⟨3,some 10,.load (some 8) (.t 9),none,0⟩,
 ⟨4,some 11,.mv (.t 0),none,0⟩,
 ⟨5,some 12,.nilc (.t 11),none,0⟩,
 ⟨6,some 13,.faddr 8 (.t 12),none,0⟩,
 ⟨7,some 14,.load (some 64) (.t 13),none,0⟩,
 ⟨8,some 15,.build ((List.replicate 72 (.int .u32 0) ++ [.slice none 0 0,.int .i64 0])) [(0,8,.t 10),(8,64,.t 14)],none,0⟩,
 ⟨9,some 16,.box (.t 15),none,0⟩,
 ⟨10,some 3,.mv (.t 16),none,0⟩] [0,2,3])
 (.seq (.ops [
 ⟨some 17,.mv (.t 3),none⟩,
 ⟨some 18,.mv (.t 0),none⟩,
 ⟨some 19,.nilc (.t 18),none⟩,
 ⟨some 20,.faddr 72 (.t 19),none⟩,
 ⟨some 21,.load none (.t 20),none⟩,
 ⟨some 22,.call 77 [.t 17,.t 21],none⟩] [0,2,3])
 (.seq (.ops [
 ⟨some 23,.mv (.t 3),none⟩,
 ⟨some 24,.mv (.t 0),none⟩,
 ⟨some 25,.nilc (.t 24),none⟩,
 ⟨some 26,.faddr 73 (.t 25),none⟩,
 ⟨some 27,.load none (.t 26),none⟩,
 ⟨some 28,.call 87 [.t 27,.c (.int .i64 64),.c (.int .i64 8)],none⟩,
 ⟨some 29,.call 77 [.t 23,.t 28],none⟩] [2,3])
 (.seq (.ops [
 ⟨some 4,.alloc (List.replicate 32 (.int .u8 0)),none⟩] [2,3,4])
 (.seq (.seq (.ops [
 ⟨some 30,.mv (.t 3),none⟩,
 ⟨some 31,.nilc (.t 30),none⟩,
 ⟨some 32,.faddr 0 (.t 31),none⟩,
 ⟨some 33,.load (some 8) (.t 32),none⟩,
 ⟨some 34,.mv (.c (.int .i64 0)),none⟩] [2,4,33,34])
 (.block 0
 (.loop
 (.seq (.ops [
 ⟨some 35,.bin .lss (.t 34) (.c (.int .i64 8)),none⟩] [2,4,33,34,35])
 (.seq (.cond (.t 35)
 .skip
 (.exit 0))
 (.seq (.block 1
 (.seq (.ops [
 ⟨some 36,.mv (.t 34),none⟩,
 ⟨some 37,.idxA 8 1 none (.t 33) (.t 34),none⟩,
 ⟨some 5,.mv (.t 36),none⟩,
 ⟨some 6,.mv (.t 37),none⟩] [2,4,5,6,33,34])
 (.dops [
 ⟨3,some 41,.mv (.t 6),none,0⟩,
 ⟨4,some 42,.conv .u64 (.t 41),none,0⟩,
 ⟨5,some 43,.call 61 [.c (.slice none 0 0),.t 42,.c (.int .i64 4)],none,0⟩,
 ⟨0,some 38,.mv (.t 5),none,1⟩,
 ⟨1,some 39,.bin .mul (.c (.int .i64 4)) (.t 38),none,1⟩,
 ⟨2,some 40,.slArr 32 1 (.t 4) (some (.t 39)) none none,none,1⟩,
 ⟨6,some 44,.copy 1 (.t 40) (.t 43),none,0⟩] [2,4,33,34])))
 (.ops [
 ⟨some 45,.bin .add (.t 34) (.c (.int .i64 1)),none⟩,
 ⟨some 34,.mv (.t 45),none⟩] [2,4,33,34])))))))
 (.seq (.ops [
 ⟨some 46,.load (some 32) (.t 4),none⟩,
 ⟨none,.store 32 (.t 2) (.t 46),none⟩] [2])
 .ret)))))))⟩

def h_slices_Grow_byte_byte : Hint := [(0,[0,1],[]),(1,[0,1,6],[]),(2,[0,1],[]),(3,[0,1],[]),(4,[0,1,16],[]),(5,[0],[]),(6,[4],[])]
def ir_slices_Grow_byte_byte : AFunc := ⟨2,27,[.tmp 4],
 (.seq (.ops [
 ⟨some 4,.mv (.c (.slice none 0 0)),none⟩] [0,1])
 (.seq (.seq (.ops [
 ⟨some 5,.mv (.t 1),none⟩,
 ⟨some 6,.bin .lss (.t 5) (.c (.int .i64 0)),none⟩] [0,1,6])
 (.cond (.t 6)
 (.ops [
 ⟨some 7,.bad,none⟩,
 ⟨none,.bad,none⟩] [0,1])
 .skip))
 (.seq (.seq (.ops [
 ⟨some 8,.mv (.t 1),none⟩,
 ⟨some 9,.mv (.t 0),none⟩,
 ⟨some 10,.capS (.t 9),none⟩,
 ⟨some 11,.mv (.t 0),none⟩,
 ⟨some 12,.lenS (.t 11),none⟩,
 ⟨some 13,.bin .sub (.t 10) (.t 12),none⟩,
 ⟨some 14,.bin .sub (.t 8) (.t 13),none⟩,
 ⟨some 1,.mv (.t 14),none⟩] [0,1])
 (.seq (.ops [
 ⟨some 15,.mv (.t 1),none⟩,
 ⟨some 16,.bin .gtr (.t 15) (.c (.int .i64 0)),none⟩] [0,1,16])
 (.cond (.t 16)
 (.ops [
 ⟨some 17,.mv (.t 0),none⟩,
 ⟨some 18,.mv (.t 0),none⟩,
 ⟨some 19,.capS (.t 18),none⟩,
 ⟨some 20,.slSl 1 (.t 17) none (some (.t 19)) none,none⟩,
 ⟨some 21,.mv (.t 1),none⟩,
 ⟨some 22,.appendZ 1 1 ([.int .u8 0]) (.t 20) (.t 21),none⟩,
 ⟨some 23,.mv (.t 0),none⟩,
 ⟨some 24,.lenS (.t 23),none⟩,
 ⟨some 25,.slSl 1 (.t 22) none (some (.t 24)) none,none⟩,
 ⟨some 0,.mv (.t 25),none⟩] [0])
 .skip)))
 (.seq (.ops [
 ⟨some 26,.mv (.t 0),none⟩,
 ⟨some 4,.mv (.t 26),none⟩] [4])
 .ret))))⟩

def h_sha_start : Hint := [(0,[0],[]),(1,[0],[])]
def ir_sha_start : AFunc := ⟨0,2,[.cell 0 (some 8)],
 (.seq (.ops [
 ⟨some 0,.alloc (List.replicate 8 (.int .u32 0)),none⟩] [0])
 (.seq (.ops [
 ⟨some 1,.build (List.replicate 8 (.int .u32 0)) [(0,1,.c (.int .u32 1779033703)),(1,1,.c (.int .u32 3144134277)),(2,1,.c (.int .u32 1013904242)),(3,1,.c (.int .u32 2773480762)),(4,1,.c (.int .u32 1359893119)),(5,1,.c (.int .u32 2600822924)),(6,1,.c (.int .u32 528734635)),(7,1,.c (.int .u32 1541459225))],none⟩,
 ⟨none,.store 8 (.t 0) (.t 1),none⟩] [0])
 .ret))⟩

def h_sha_constants : Hint := [(0,[0],[]),(1,[0],[])]
def ir_sha_constants_1 : ACode := (.seq (.ops [
 ⟨some 1,.build (List.replicate 64 (.int .u32 0)) [(0,1,.c (.int .u32 1116352408)),(1,1,.c (.int .u32 1899447441)),(2,1,.c (.int .u32 3049323471)),(3,1,.c (.int .u32 3921009573)),(4,1,.c (.int .u32 961987163)),(5,1,.c (.int .u32 1508970993)),(6,1,.c (.int .u32 2453635748)),(7,1,.c (.int .u32 2870763221)),(8,1,.c (.int .u32 3624381080)),(9,1,.c (.int .u32 310598401)),(10,1,.c (.int .u32 607225278)),(11,1,.c (.int .u32 1426881987)),(12,1,.c (.int .u32 1925078388)),(13,1,.c (.int .u32 2162078206)),(14,1,.c (.int .u32 2614888103)),(15,1,.c (.int .u32 3248222580)),(16,1,.c (.int .u32 3835390401)),(17,1,.c (.int .u32 4022224774)),(18,1,.c (.int .u32 264347078)),(19,1,.c (.int .u32 604807628)),(20,1,.c (.int .u32 770255983)),(21,1,.c (.int .u32 1249150122)),(22,1,.c (.int .u32 1555081692)),(23,1,.c (.int .u32 1996064986)),(24,1,.c (.int .u32 2554220882)),(25,1,.c (.int .u32 2821834349)),(26,1,.c (.int .u32 2952996808)),(27,1,.c (.int .u32 3210313671)),(28,1,.c (.int .u32 3336571891)),(29,1,.c (.int .u32 3584528711)),(30,1,.c (.int .u32 113926993)),(31,1,.c (.int .u32 338241895)),(32,1,.c (.int .u32 666307205)),(33,1,.c (.int .u32 773529912)),(34,1,.c (.int .u32 1294757372)),(35,1,.c (.int .u32 1396182291)),(36,1,.c (.int .u32 1695183700)),(37,1,.c (.int .u32 1986661051)),(38,1,.c (.int .u32 2177026350)),(39,1,.c (.int .u32 2456956037)),(40,1,.c (.int .u32 2730485921)),(41,1,.c (.int .u32 2820302411)),(42,1,.c (.int .u32 3259730800)),(43,1,.c (.int .u32 3345764771)),(44,1,.c (.int .u32 3516065817)),(45,1,.c (.int .u32 3600352804)),(46,1,.c (.int .u32 4094571909)),(47,1,.c (.int .u32 275423344)),(48,1,.c (.int .u32 430227734)),(49,1,.c (.int .u32 506948616)),(50,1,.c (.int .u32 659060556)),(51,1,.c (.int .u32 883997877)),(52,1,.c (.int .u32 958139571)),(53,1,.c (.int .u32 1322822218)),(54,1,.c (.int .u32 1537002063)),(55,1,.c (.int .u32 1747873779)),(56,1,.c (.int .u32 1955562222)),(57,1,.c (.int .u32 2024104815)),(58,1,.c (.int .u32 2227730452)),(59,1,.c (.int .u32 2361852424)),(60,1,.c (.int .u32 2428436474)),(61,1,.c (.int .u32 2756734187)),(62,1,.c (.int .u32 3204031479)),(63,1,.c (.int .u32 3329325298))],none⟩,
 ⟨none,.store 64 (.t 0) (.t 1),none⟩] [0])
 .ret)
def ir_sha_constants : AFunc := ⟨0,2,[.cell 0 (some 64)],
 (.seq (.ops [
 ⟨some 0,.alloc (List.replicate 64 (.int .u32 0)),none⟩] [0])
 ir_sha_constants_1)⟩

def h_sha_mix : Hint := [(0,[1,2,3,6],[]),(1,[2,3,6,7],[]),(2,[2,3,6,7,8],[]),(3,[2,3,6,7,8,21],[]),(4,[2,3,6,7,8,21,22],[]),(5,[2,3,6,7,8,9,21],[]),(6,[2,3,6,7,8,9,10,11,21],[(0,0),(1,0),(2,0),(3,0),(4,0),(5,0)]),(7,[2,3,6,7,8,9,10,11,12,21],[]),(8,[2,3,6,7,8,9,11,12,13,21],[]),(9,[2,3,6,7,8,11,14,21],[(0,0),(1,0),(2,0),(3,0),(4,0),(5,0),(6,0),(7,0),(8,0),(9,0),(10,0),(11,0),(12,0),(13,0),(14,0),(15,0),(16,0)]),(10,[2,3,6,7,8,11,14,15,21],[]),(11,[2,3,6,7,8,14,15,16,21],[]),(12,[2,3,6,7,8,21],[]),(13,[2,3,6,7,8,21],[]),(14,[3,6,8,108],[]),(15,[3,6,8,108,109],[]),(16,[3,6,8,17,108],[]),(17,[3,6,8,108],[(0,0),(1,0),(2,0),(3,0),(4,0),(5,0),(6,0),(7,0),(8,0)]),(18,[3,6,8,108],[]),(19,[6],[])]
def ir_sha_mix : AFunc := ⟨3,121,[.cell 6 (some 8)],
 (.seq (.ops [
 ⟨some 3,.box (.t 0),none⟩,
 ⟨some 6,.alloc (List.replicate 8 (.int .u32 0)),none⟩] [1,2,3,6])
 (.seq (.ops [
 ⟨some 18,.mv (.t 1),none⟩,
 ⟨some 19,.call 91 [.t 18],none⟩,
 ⟨some 7,.alloc (List.replicate 64 (.int .u32 0)),none⟩,
 ⟨none,.store 64 (.t 7) (.t 19),none⟩] [2,3,6,7])
 (.seq (.ops [
 ⟨some 20,.load (some 8) (.t 3),none⟩,
 ⟨some 8,.alloc (List.replicate 8 (.int .u32 0)),none⟩,
 ⟨none,.store 8 (.t 8) (.t 20),none⟩] [2,3,6,7,8])
 (.seq (.seq (.ops [
 ⟨some 21,.mv (.c (.int .i64 0)),none⟩] [2,3,6,7,8,21])
 (.block 0
 (.loop
 (.seq (.ops [
 ⟨some 22,.bin .lss (.t 21) (.c (.int .i64 64)),none⟩] [2,3,6,7,8,21,22])
 (.seq (.cond (.t 22)
 .skip
 (.exit 0))
 (.seq (.block 1
 (.seq (.ops [
 ⟨some 23,.mv (.t 21),none⟩,
 ⟨some 9,.mv (.t 23),none⟩] [2,3,6,7,8,9,21])
 (.seq (.dops [
 ⟨0,some 24,.iaddrA 8 1 (.t 8) (.c (.int .i64 4)),none,0⟩,
 ⟨1,some 25,.load none (.t 24),none,0⟩,
 ⟨2,some 26,.iaddrA 8 1 (.t 8) (.c (.int .i64 0)),none,0⟩,
 ⟨3,some 27,.load none (.t 26),none,0⟩,
 ⟨4,some 10,.mv (.t 25),none,0⟩,
 ⟨5,some 11,.mv (.t 27),none,0⟩] [2,3,6,7,8,9,10,11,21])
 (.seq (.ops [
 ⟨some 28,.mv (.t 10),none⟩,
 ⟨some 29,.call 92 [.t 28,.c (.int .i64 6)],none⟩,
 ⟨some 30,.mv (.t 10),none⟩,
 ⟨some 31,.call 92 [.t 30,.c (.int .i64 11)],none⟩,
 ⟨some 32,.bin .xor (.t 29) (.t 31),none⟩,
 ⟨some 33,.mv (.t 10),none⟩,
 ⟨some 34,.call 92 [.t 33,.c (.int .i64 25)],none⟩,
 ⟨some 35,.bin .xor (.t 32) (.t 34),none⟩,
 ⟨some 12,.mv (.t 35),none⟩] [2,3,6,7,8,9,10,11,12,21])
 (.seq (.ops [
 ⟨some 36,.mv (.t 10),none⟩,
 ⟨some 37,.iaddrA 8 1 (.t 8) (.c (.int .i64 5)),none⟩,
 ⟨some 38,.load none (.t 37),none⟩,
 ⟨some 39,.bin .and (.t 36) (.t 38),none⟩,
 ⟨some 40,.mv (.t 10),none⟩,
 ⟨some 41,.un .xor (.t 40),none⟩,
 ⟨some 42,.iaddrA 8 1 (.t 8) (.c (.int .i64 6)),none⟩,
 ⟨some 43,.load none (.t 42),none⟩,
 ⟨some 44,.bin .and (.t 41) (.t 43),none⟩,
 ⟨some 45,.bin .xor (.t 39) (.t 44),none⟩,
 ⟨some 13,.mv (.t 45),none⟩] [2,3,6,7,8,9,11,12,13,21])
 (.seq (.dops [
 ⟨0,some 46,.iaddrA 8 1 (.t 8) (.c (.int .i64 7)),none,0⟩,
 ⟨1,some 47,.load none (.t 46),none,0⟩,
 ⟨2,some 48,.mv (.t 12),none,0⟩,
 ⟨3,some 49,.bin .add (.t 47) (.t 48),none,0⟩,
 ⟨4,some 50,.mv (.t 13),none,0⟩,
 ⟨5,some 51,.bin .add (.t 49) (.t 50),none,0⟩,
 ⟨6,some 52,.mv (.t 2),none,0⟩,
 ⟨7,some 53,.mv (.t 9),none,0⟩,
 ⟨8,some 54,.nilc (.t 52),none,0⟩,
 ⟨9,some 55,.iaddrA 64 1 (.t 54) (.t 53),none,0⟩,
 ⟨10,some 56,.load none (.t 55),none,0⟩,
 ⟨11,some 57,.bin .add (.t 51) (.t 56),none,0⟩,
 ⟨12,some 58,.mv (.t 9),none,0⟩,
 ⟨13,some 59,.iaddrA 64 1 (.t 7) (.t 58),none,0⟩,
 ⟨14,some 60,.load none (.t 59),none,0⟩,
 ⟨15,some 61,.bin .add (.t 57) (.t 60),none,0⟩,
 ⟨16,some 14,.mv (.t 61),none,0⟩] [2,3,6,7,8,11,14,21])
 (.seq (.ops [
 ⟨some 62,.mv (.t 11),none⟩,
 ⟨some 63,.call 92 [.t 62,.c (.int .i64 2)],none⟩,
 ⟨some 64,.mv (.t 11),none⟩,
 ⟨some 65,.call 92 [.t 64,.c (.int .i64 13)],none⟩,
 ⟨some 66,.bin .xor (.t 63) (.t 65),none⟩,
 ⟨some 67,.mv (.t 11),none⟩,
 ⟨some 68,.call 92 [.t 67,.c (.int .i64 22)],none⟩,
 ⟨some 69,.bin .xor (.t 66) (.t 68),none⟩,
 ⟨some 15,.mv (.t 69),none⟩] [2,3,6,7,8,11,14,15,21])
 (.seq (.ops [
 ⟨some 70,.mv (.t 11),none⟩,
 ⟨some 71,.iaddrA 8 1 (.t 8) (.c (.int .i64 1)),none⟩,
 ⟨some 72,.load none (.t 71),none⟩,
 ⟨some 73,.bin .and (.t 70) (.t 72),none⟩,
 ⟨some 74,.mv (.t 11),none⟩,
 ⟨some 75,.iaddrA 8 1 (.t 8) (.c (.int .i64 2)),none⟩,
 ⟨some 76,.load none (.t 75),none⟩,
 ⟨some 77,.bin .and (.t 74) (.t 76),none⟩,
 ⟨some 78,.bin .xor (.t 73) (.t 77),none⟩,
 ⟨some 79,.iaddrA 8 1 (.t 8) (.c (.int .i64 1)),none⟩,
 ⟨some 80,.load none (.t 79),none⟩,
 ⟨some 81,.iaddrA 8 1 (.t 8) (.c (.int .i64 2)),none⟩,
 ⟨some 82,.load none (.t 81),none⟩,
 ⟨some 83,.bin .and (.t 80) (.t 82),none⟩,
 ⟨some 84,.bin .xor (.t 78) (.t 83),none⟩,
 ⟨some 16,.mv (.t 84),none⟩] [2,3,6,7,8,14,15,16,21])
 (.ops [
 ⟨some 85,.mv (.t 14),none⟩,
 ⟨some 86,.mv (.t 15),none⟩,
 ⟨some 87,.bin .add (.t 85) (.t 86),none⟩,
 ⟨some 88,.mv (.t 16),none⟩,
 ⟨some 89,.bin .add (.t 87) (.t 88),none⟩,
 ⟨some 90,.iaddrA 8 1 (.t 8) (.c (.int .i64 0)),none⟩,
 ⟨some 91,.load none (.t 90),none⟩,
 ⟨some 92,.iaddrA 8 1 (.t 8) (.c (.int .i64 1)),none⟩,
 ⟨some 93,.load none (.t 92),none⟩,
 ⟨some 94,.iaddrA 8 1 (.t 8) (.c (.int .i64 2)),none⟩,
 ⟨some 95,.load none (.t 94),none⟩,
 ⟨some 96,.iaddrA 8 1 (.t 8) (.c (.int .i64 3)),none⟩,
 ⟨some 97,.load none (.t 96),none⟩,
 ⟨some 98,.mv (.t 14),none⟩,
 ⟨some 99,.bin .add (.t 97) (.t 98),none⟩,
 ⟨some 100,.iaddrA 8 1 (.t 8) (.c (.int .i64 4)),none⟩,
 ⟨some 101,.load none (.t 100),none⟩,
 ⟨some 102,.iaddrA 8 1 (.t 8) (.c (.int .i64 5)),none⟩,
 ⟨some 103,.load none (.t 102),none⟩,
 ⟨some 104,.iaddrA 8 1 (.t 8) (.c (.int .i64 6)),none⟩,
 ⟨some 105,.load none (.t 104),none⟩,
 ⟨some 106,.build (List.replicate 8 (.int .u32 0)) [(0,1,.t 89),(1,1,.t 91),(2,1,.t 93),(3,1,.t 95),(4,1,.t 99),(5,1,.t 101),(6,1,.t 103),(7,1,.t 105)],none⟩,
 ⟨none,.store 8 (.t 8) (.t 106),none⟩] [2,3,6,7,8,21])))))))))
 (.ops [
 ⟨some 107,.bin .add (.t 21) (.c (.int .i64 1)),none⟩,
 ⟨some 21,.mv (.t 107),none⟩] [2,3,6,7,8,21])))))))
 (.seq (.seq (.ops [
 ⟨some 108,.mv (.c (.int .i64 0)),none⟩] [3,6,8,108])
 (.block 2
 (.loop
 (.seq (.ops [
 ⟨some 109,.bin .lss (.t 108) (.c (.int .i64 8)),none⟩] [3,6,8,108,109])
 (.seq (.cond (.t 109)
 .skip
 (.exit 2))
 (.seq (.block 3
 (.seq (.ops [
 ⟨some 110,.mv (.t 108),none⟩,
 ⟨some 17,.mv (.t 110),none⟩] [3,6,8,17,108])
 (.dops [
 ⟨0,some 111,.mv (.t 17),none,0⟩,
 ⟨1,some 112,.iaddrA 8 1 (.t 3) (.t 111),none,0⟩,
 ⟨2,some 113,.load none (.t 112),none,0⟩,
 ⟨3,some 114,.mv (.t 17),none,0⟩,
 ⟨4,some 115,.iaddrA 8 1 (.t 8) (.t 114),none,0⟩,
 ⟨5,some 116,.load none (.t 115),none,0⟩,
 ⟨6,some 117,.bin .add (.t 113) (.t 116),none,0⟩,
 ⟨7,some 118,.iaddrA 8 1 (.t 3) (.t 111),none,0⟩,
 ⟨8,none,.store 1 (.t 118) (.t 117),none,0⟩] [3,6,8,108])))
 (.ops [
 ⟨some 119,.bin .add (.t 108) (.c (.int .i64 1)),none⟩,
 ⟨some 108,.mv (.t 119),none⟩] [3,6,8,108])))))))
 (.seq (.ops [
 ⟨some 120,.load (some 8) (.t 3),none⟩,
 ⟨none,.store 8 (.t 6) (.t 120),none⟩] [6])
 .ret))))))⟩

def h_sha_padding : Hint := [(0,[0,1,2],[]),(1,[0,1,2,7],[]),(2,[0,1,2,7,19],[]),(3,[0,1,2,7],[]),(4,[0,7,24,25],[]),(5,[0,7,24,25,26],[]),(6,[0,7,24,25],[]),(7,[0,7,24,25],[]),(8,[6],[])]
def ir_sha_padding : AFunc := ⟨3,36,[.tmp 6],
 (.seq (.ops [
 ⟨some 6,.mv (.c (.slice none 0 0)),none⟩] [0,1,2])
 (.seq (.ops [
 ⟨some 8,.bslice 1 1 ([.int .u8 0]) [(0,1,.c (.int .u8 128))],none⟩,
 ⟨some 7,.mv (.t 8),none⟩] [0,1,2,7])
 (.seq (.block 0
 (.loop
 (.seq (.seq (.ops [
 ⟨some 9,.mv (.t 0),none⟩,
 ⟨some 10,.mv (.t 1),none⟩,
 ⟨some 11,.bin .rem (.t 9) (.t 10),none⟩,
 ⟨some 12,.mv (.t 7),none⟩,
 ⟨some 13,.lenS (.t 12),none⟩,
 ⟨some 14,.bin .add (.t 11) (.t 13),none⟩,
 ⟨some 15,.mv (.t 2),none⟩,
 ⟨some 16,.bin .add (.t 14) (.t 15),none⟩,
 ⟨some 17,.mv (.t 1),none⟩,
 ⟨some 18,.bin .rem (.t 16) (.t 17),none⟩,
 ⟨some 19,.bin .neq (.t 18) (.c (.int .i64 0)),none⟩] [0,1,2,7,19])
 (.cond (.t 19)
 .skip
 (.exit 0)))
 (.block 1
 (.ops [
 ⟨some 20,.mv (.t 7),none⟩,
 ⟨some 21,.bslice 1 1 ([.int .u8 0]) [(0,1,.c (.int .u8 0))],none⟩,
 ⟨some 22,.append 1 1 (.t 20) (.t 21),none⟩,
 ⟨some 7,.mv (.t 22),none⟩] [0,1,2,7])))))
 (.seq (.seq (.ops [
 ⟨some 23,.mv (.t 2),none⟩,
 ⟨some 24,.bin .sub (.t 23) (.c (.int .i64 8)),none⟩,
 ⟨some 25,.mv (.c (.int .i64 0)),none⟩] [0,7,24,25])
 (.block 2
 (.loop
 (.seq (.ops [
 ⟨some 26,.bin .lss (.t 25) (.t 24),none⟩] [0,7,24,25,26])
 (.seq (.cond (.t 26)
 .skip
 (.exit 2))
 (.seq (.block 3
 (.ops [
 ⟨some 27,.mv (.t 7),none⟩,
 ⟨some 28,.bslice 1 1 ([.int .u8 0]) [(0,1,.c (.int .u8 0))],none⟩,
 ⟨some 29,.append 1 1 (.t 27) (.t 28),none⟩,
 ⟨some 7,.mv (.t 29),none⟩] [0,7,24,25]))
 (.ops [
 ⟨some 30,.bin .add (.t 25) (.c (.int .i64 1)),none⟩,
 ⟨some 25,.mv (.t 30),none⟩] [0,7,24,25])))))))
 (.seq (.ops [
 ⟨some 31,.mv (.t 7),none⟩,
 ⟨some 32,.mv (.t 0),none⟩,
 ⟨some 33,.conv .u64 (.t 32),none⟩,
 ⟨some 34,.bin .mul (.t 33) (.c (.int .u64 8)),none⟩,
 ⟨some 35,.call 61 [.t 31,.t 34,.c (.int .i64 8)],none⟩,
 ⟨some 6,.mv (.t 35),none⟩] [6])
 .ret)))))⟩

def h_octet_FromBig : Hint := [(0,[0],[]),(1,[0,9],[]),(2,[2,3],[]),(3,[0,4],[]),(4,[4,10,11,12],[]),(5,[4,10,11,12,13],[]),(6,[4,6,10,11,12],[]),(7,[4,10,11,12],[]),(8,[4,10,11,12],[]),(9,[2,3],[])]
def ir_octet_FromBig : AFunc := ⟨1,23,[.tmp 2,.tmp 3],
 (.seq (.ops [
 ⟨some 2,.mv (.c (.int .u64 0)),none⟩,
 ⟨some 3,.mv (.c (.int .i64 0)),none⟩] [0])
 (.seq (.seq (.ops [
 ⟨some 7,.mv (.t 0),none⟩,
 ⟨some 8,.lenS (.t 7),none⟩,
 ⟨some 9,.bin .gtr (.t 8) (.c (.int .i64 8)),none⟩] [0,9])
 (.cond (.t 9)
 (.seq (.ops [
 ⟨some 2,.mv (.c (.int .u64 0)),none⟩,
 ⟨some 3,.mv (.c (.int .i64 1)),none⟩] [2,3])
 .ret)
 .skip))
 (.seq (.ops [
 ⟨some 4,.mv (.c (.int .u64 0)),none⟩] [0,4])
 (.seq (.seq (.ops [
 ⟨some 10,.mv (.t 0),none⟩,
 ⟨some 11,.lenS (.t 10),none⟩,
 ⟨some 12,.mv (.c (.int .i64 0)),none⟩] [4,10,11,12])
 (.block 0
 (.loop
 (.seq (.ops [
 ⟨some 13,.bin .lss (.t 12) (.t 11),none⟩] [4,10,11,12,13])
 (.seq (.cond (.t 13)
 .skip
 (.exit 0))
 (.seq (.block 1
 (.seq (.ops [
 ⟨some 14,.iaddrS 1 (.t 10) (.t 12),none⟩,
 ⟨some 15,.load none (.t 14),none⟩,
 ⟨some 6,.mv (.t 15),none⟩] [4,6,10,11,12])
 (.ops [
 ⟨some 16,.mv (.t 4),none⟩,
 ⟨some 17,.bin .shl (.t 16) (.c (.int .u64 8)),none⟩,
 ⟨some 18,.mv (.t 6),none⟩,
 ⟨some 19,.conv .u64 (.t 18),none⟩,
 ⟨some 20,.bin .or (.t 17) (.t 19),none⟩,
 ⟨some 4,.mv (.t 20),none⟩] [4,10,11,12])))
 (.ops [
 ⟨some 21,.bin .add (.t 12) (.c (.int .i64 1)),none⟩,
 ⟨some 12,.mv (.t 21),none⟩] [4,10,11,12])))))))
 (.seq (.ops [
 ⟨some 22,.mv (.t 4),none⟩,
 ⟨some 2,.mv (.t 22),none⟩,
 ⟨some 3,.mv (.c (.int .i64 0)),none⟩] [2,3])
 .ret)))))⟩

def h_sha_schedule : Hint := [(0,[0,2],[]),(1,[0,2,3],[]),(2,[0,2,3,11],[]),(3,[0,2,3,11,12],[]),(4,[0,2,3,4,11],[]),(5,[0,2,3,4,11,15],[]),(6,[0,2,3,4,5,11],[]),(7,[0,2,3,11],[]),(8,[0,2,3,4,7,8,11],[(0,0),(1,0),(2,0),(3,0),(4,0),(5,0),(6,0),(7,0),(8,0),(9,0)]),(9,[0,2,3,4,8,9,11],[]),(10,[0,2,3,4,9,10,11],[]),(11,[0,2,3,11],[(0,0),(1,0),(2,0),(3,0),(4,0),(5,0),(6,0),(7,0),(8,0),(9,0),(10,0),(11,0),(12,0),(13,0),(14,0),(15,0)]),(12,[0,2,3,11],[]),(13,[2],[])]
def ir_sha_schedule : AFunc := ⟨1,72,[.cell 2 (some 64)],
 (.seq (.ops [
 ⟨some 2,.alloc (List.replicate 64 (.int .u32 0)),none⟩] [0,2])
 (.seq (.ops [
 ⟨some 3,.alloc (List.replicate 64 (.int .u32 0)),none⟩] [0,2,3])
 (.seq (.seq (.ops [
 ⟨some 11,.mv (.c (.int .i64 0)),none⟩] [0,2,3,11])
 (.block 0
 (.loop
 (.seq (.ops [
 ⟨some 12,.bin .lss (.t 11) (.c (.int .i64 64)),none⟩] [0,2,3,11,12])
 (.seq (.cond (.t 12)
 .skip
 (.exit 0))
 (.seq (.block 1
 (.seq (.ops [
 ⟨some 13,.mv (.t 11),none⟩,
 ⟨some 4,.mv (.t 13),none⟩] [0,2,3,4,11])
 (.seq (.seq (.ops [
 ⟨some 14,.mv (.t 4),none⟩,
 ⟨some 15,.bin .lss (.t 14) (.c (.int .i64 16)),none⟩] [0,2,3,4,11,15])
 (.cond (.t 15)
 (.seq (.ops [
 ⟨some 17,.mv (.t 0),none⟩,
 ⟨some 18,.mv (.t 4),none⟩,
 ⟨some 19,.bin .mul (.c (.int .i64 4)) (.t 18),none⟩,
 ⟨some 20,.mv (.t 4),none⟩,
 ⟨some 21,.bin .mul (.c (.int .i64 4)) (.t 20),none⟩,
 ⟨some 22,.bin .add (.t 21) (.c (.int .i64 4)),none⟩,
 ⟨some 23,.slSl 1 (.t 17) (some (.t 19)) (some (.t 22)) none,none⟩,
 ⟨some 24,.call 88 [.t 23],none⟩,
 ⟨some 16,.mv (.t 24),none⟩,
 ⟨some 25,.ext (.t 16) 0,none⟩,
 ⟨some 26,.ext (.t 16) 1,none⟩,
 ⟨some 5,.mv (.t 25),none⟩,
 ⟨some 6,.mv (.t 26),none⟩] [0,2,3,4,5,11])
 (.seq (.ops [
 ⟨some 27,.mv (.t 4),none⟩,
 ⟨some 28,.mv (.t 5),none⟩,
 ⟨some 29,.conv .u32 (.t 28),none⟩,
 ⟨some 30,.iaddrA 64 1 (.t 3) (.t 27),none⟩,
 ⟨none,.store 1 (.t 30) (.t 29),none⟩] [0,2,3,11])
 (.exit 1)))
 .skip))
 (.seq (.dops [
 ⟨0,some 31,.mv (.t 4),none,0⟩,
 ⟨1,some 32,.bin .sub (.t 31) (.c (.int .i64 15)),none,0⟩,
 ⟨2,some 33,.iaddrA 64 1 (.t 3) (.t 32),none,0⟩,
 ⟨3,some 34,.load none (.t 33),none,0⟩,
 ⟨4,some 35,.mv (.t 4),none,0⟩,
 ⟨5,some 36,.bin .sub (.t 35) (.c (.int .i64 2)),none,0⟩,
 ⟨6,some 37,.iaddrA 64 1 (.t 3) (.t 36),none,0⟩,
 ⟨7,some 38,.load none (.t 37),none,0⟩,
 ⟨8,some 7,.mv (.t 34),none,0⟩,
 ⟨9,some 8,.mv (.t 38),none,0⟩] [0,2,3,4,7,8,11])
 (.seq (.ops [
 ⟨some 39,.mv (.t 7),none⟩,
 ⟨some 40,.call 92 [.t 39,.c (.int .i64 7)],none⟩,
 ⟨some 41,.mv (.t 7),none⟩,
 ⟨some 42,.call 92 [.t 41,.c (.int .i64 18)],none⟩,
 ⟨some 43,.bin .xor (.t 40) (.t 42),none⟩,
 ⟨some 44,.mv (.t 7),none⟩,
 ⟨some 45,.bin .shr (.t 44) (.c (.int .u64 3)),none⟩,
 ⟨some 46,.bin .xor (.t 43) (.t 45),none⟩,
 ⟨some 9,.mv (.t 46),none⟩] [0,2,3,4,8,9,11])
 (.seq (.ops [
 ⟨some 47,.mv (.t 8),none⟩,
 ⟨some 48,.call 92 [.t 47,.c (.int .i64 17)],none⟩,
 ⟨some 49,.mv (.t 8),none⟩,
 ⟨some 50,.call 92 [.t 49,.c (.int .i64 19)],none⟩,
 ⟨some 51,.bin .xor (.t 48) (.t 50),none⟩,
 ⟨some 52,.mv (.t 8),none⟩,
 ⟨some 53,.bin .shr (.t 52) (.c (.int .u64 10)),none⟩,
 ⟨some 54,.bin .xor (.t 51) (.t 53),none⟩,
 ⟨some 10,.mv (.t 54),none⟩] [0,2,3,4,9,10,11])
 (.dops [
 ⟨0,some 55,.mv (.t 4),none,0⟩,
 ⟨1,some 56,.mv (.t 4),none,0⟩,
 ⟨2,some 57,.bin .sub (.t 56) (.c (.int .i64 16)),none,0⟩,
 ⟨3,some 58,.iaddrA 64 1 (.t 3) (.t 57),none,0⟩,
 ⟨4,some 59,.load none (.t 58),none,0⟩,
 ⟨5,some 60,.mv (.t 9),none,0⟩,
 ⟨6,some 61,.bin .add (.t 59) (.t 60),none,0⟩,
 ⟨7,some 62,.mv (.t 4),none,0⟩,
 ⟨8,some 63,.bin .sub (.t 62) (.c (.int .i64 7)),none,0⟩,
 ⟨9,some 64,.iaddrA 64 1 (.t 3) (.t 63),none,0⟩,
 ⟨10,some 65,.load none (.t 64),none,0⟩,
 ⟨11,some 66,.bin .add (.t 61) (.t 65),none,0⟩,
 ⟨12,some 67,.mv (.t 10),none,0⟩,
 ⟨13,some 68,.bin .add (.t 66) (.t 67),none,0⟩,
 ⟨14,some 69,.iaddrA 64 1 (.t 3) (.t 55),none,0⟩,
 ⟨15,none,.store 1 (.t 69) (.t 68),none,0⟩] [0,2,3,11])))))))
 (.ops [
 ⟨some 70,.bin .add (.t 11) (.c (.int .i64 1)),none⟩,
 ⟨some 11,.mv (.t 70),none⟩] [0,2,3,11])))))))
 (.seq (.ops [
 ⟨some 71,.load (some 64) (.t 3),none⟩,
 ⟨none,.store 64 (.t 2) (.t 71),none⟩] [2])
 .ret))))⟩

def h_sha_turn : Hint := [(0,[0,1],[]),(1,[4],[])]
def ir_sha_turn : AFunc := ⟨2,9,[.tmp 4],
 (.seq (.ops [
 ⟨some 4,.mv (.c (.int .u32 0)),none⟩] [0,1])
 (.seq (.ops [
 ⟨some 5,.mv (.t 0),none⟩,
 ⟨some 6,.mv (.t 1),none⟩,
 ⟨some 7,.un .neg (.t 6),none⟩,
 ⟨some 8,.call 94 [.t 5,.t 7],none⟩,
 ⟨some 4,.mv (.t 8),none⟩] [4])
 .ret))⟩

def h_math_bits_RotateLeft32 : Hint := [(0,[0,1],[]),(1,[0,5],[]),(2,[4],[])]
def ir_math_bits_RotateLeft32 : AFunc := ⟨2,17,[.tmp 4],
 (.seq (.ops [
 ⟨some 4,.mv (.c (.int .u32 0)),none⟩] [0,1])
 (.seq (.ops [
 ⟨some 6,.mv (.t 1),none⟩,
 ⟨some 7,.conv .u64 (.t 6),none⟩,
 ⟨some 8,.bin .and (.t 7) (.c (.int .u64 31)),none⟩,
 ⟨some 5,.mv (.t 8),none⟩] [0,5])
 (.seq (.ops [
 ⟨some 9,.mv (.t 0),none⟩,
 ⟨some 10,.mv (.t 5),none⟩,
 ⟨some 11,.bin .shl (.t 9) (.t 10),none⟩,
 ⟨some 12,.mv (.t 0),none⟩,
 ⟨some 13,.mv (.t 5),none⟩,
 ⟨some 14,.bin .sub (.c (.int .u64 32)) (.t 13),none⟩,
 ⟨some 15,.bin .shr (.t 12) (.t 14),none⟩,
 ⟨some 16,.bin .or (.t 11) (.t 15),none⟩,
 ⟨some 4,.mv (.t 16),none⟩] [4])
 .ret)))⟩

def h_disk_Disk_Rename : Hint := [(0,[0,1,2],[]),(1,[0,1,2,7],[]),(2,[0,1,2,7,16],[]),(3,[6],[]),(4,[0,1,2,8,9],[]),(5,[0,1,2,8,9,25],[]),(6,[6],[]),(7,[0,2,8],[]),(8,[],[]),(9,[6],[])]
def ir_disk_Disk_Rename_19 : ACode := (.seq (.ops [
 ⟨some 19,.mv (.t 0),none⟩,
 ⟨some 20,.mv (.t 1),none⟩,
 ⟨some 21,.call 57 [.t 19,.t 20],none⟩,
 ⟨some 18,.mv (.t 21),none⟩,
 ⟨some 22,.ext (.t 18) 0,none⟩,
 ⟨some 23,.ext (.t 18) 1,none⟩,
 ⟨some 8,.mv (.t 22),none⟩,
 ⟨some 9,.mv (.t 23),none⟩] [0,1,2,8,9])
 (.seq (.seq (.ops [
 ⟨some 24,.mv (.t 9),none⟩,
 ⟨some 25,.bin .neq (.t 24) (.c (.int .i64 0)),none⟩] [0,1,2,8,9,25])
 (.cond (.t 25)
 (.seq (.ops [
 ⟨some 26,.mv (.t 9),none⟩,
 ⟨some 6,.mv (.t 26),none⟩] [6])
 .ret)
 .skip))
 (.seq (.ops [
 ⟨some 27,.mv (.t 0),none⟩,
 ⟨some 28,.nilc (.t 27),none⟩,
 ⟨some 29,.faddr 1 (.t 28),none⟩,
 ⟨some 30,.load none (.t 29),none⟩,
 ⟨some 31,.mv (.t 1),none⟩,
 ⟨none,.mdel .str (.t 30) (.t 31),none⟩] [0,2,8])
 (.seq (.ops [
 ⟨some 32,.mv (.t 0),none⟩,
 ⟨some 33,.nilc (.t 32),none⟩,
 ⟨some 34,.faddr 1 (.t 33),none⟩,
 ⟨some 35,.load none (.t 34),none⟩,
 ⟨some 36,.mv (.t 2),none⟩,
 ⟨some 37,.mv (.t 8),none⟩,
 ⟨none,.mupd .str (.t 35) (.t 36) (.t 37),none⟩] [])
 (.seq (.ops [
 ⟨some 6,.mv (.c (.int .i64 0)),none⟩] [6])
 .ret)))))
def ir_disk_Disk_Rename : AFunc := ⟨3,38,[.tmp 6],
 (.seq (.ops [
 ⟨some 6,.mv (.c (.int .i64 0)),none⟩] [0,1,2])
 (.seq (.seq (.ops [
 ⟨some 10,.mv (.t 0),none⟩,
 ⟨some 11,.mv (.t 1),none⟩,
 ⟨some 12,.mv (.t 2),none⟩,
 ⟨some 13,.bslice 2 1 ([.string .empty]) [(0,1,.t 11),(1,1,.t 12)],none⟩,
 ⟨some 14,.call 53 [.t 10,.t 13],none⟩,
 ⟨some 7,.mv (.t 14),none⟩] [0,1,2,7])
 (.seq (.ops [
 ⟨some 15,.mv (.t 7),none⟩,
 ⟨some 16,.bin .neq (.t 15) (.c (.int .i64 0)),none⟩] [0,1,2,7,16])
 (.cond (.t 16)
 (.seq (.ops [
 ⟨some 17,.mv (.t 7),none⟩,
 ⟨some 6,.mv (.t 17),none⟩] [6])
 .ret)
 .skip)))
 ir_disk_Disk_Rename_19))⟩

def h_disk_Disk_Drop : Hint := [(0,[0,1],[]),(1,[0,1,6],[]),(2,[0,1,6,14],[]),(3,[6],[]),(4,[4],[])]
def ir_disk_Disk_Drop : AFunc := ⟨2,21,[.tmp 4],
 (.seq (.ops [
 ⟨some 4,.mv (.c (.int .i64 0)),none⟩] [0,1])
 (.seq (.ops [
 ⟨some 8,.mv (.t 0),none⟩,
 ⟨some 9,.mv (.t 1),none⟩,
 ⟨some 10,.call 57 [.t 8,.t 9],none⟩,
 ⟨some 7,.mv (.t 10),none⟩,
 ⟨some 11,.ext (.t 7) 0,none⟩,
 ⟨some 12,.ext (.t 7) 1,none⟩,
 ⟨some 5,.mv (.t 11),none⟩,
 ⟨some 6,.mv (.t 12),none⟩] [0,1,6])
 (.seq (.seq (.ops [
 ⟨some 13,.mv (.t 6),none⟩,
 ⟨some 14,.bin .eql (.t 13) (.c (.int .i64 0)),none⟩] [0,1,6,14])
 (.cond (.t 14)
 (.ops [
 ⟨some 15,.mv (.t 0),none⟩,
 ⟨some 16,.nilc (.t 15),none⟩,
 ⟨some 17,.faddr 1 (.t 16),none⟩,
 ⟨some 18,.load none (.t 17),none⟩,
 ⟨some 19,.mv (.t 1),none⟩,
 ⟨none,.mdel .str (.t 18) (.t 19),none⟩] [6])
 .skip))
 (.seq (.ops [
 ⟨some 20,.mv (.t 6),none⟩,
 ⟨some 4,.mv (.t 20),none⟩] [4])
 .ret))))⟩

def h_bytes_Clone : Hint := [(0,[0],[]),(1,[0,4],[]),(2,[2],[]),(3,[2],[])]
def ir_bytes_Clone : AFunc := ⟨1,8,[.tmp 2],
 (.seq (.ops [
 ⟨some 2,.mv (.c (.slice none 0 0)),none⟩] [0])
 (.seq (.seq (.ops [
 ⟨some 3,.mv (.t 0),none⟩,
 ⟨some 4,.eqv .slice false (.t 3) (.c (.slice none 0 0)),none⟩] [0,4])
 (.cond (.t 4)
 (.seq (.ops [
 ⟨some 2,.mv (.c (.slice none 0 0)),none⟩] [2])
 .ret)
 .skip))
 (.seq (.ops [
 ⟨some 5,.bslice 0 1 ([.int .u8 0]) [],none⟩,
 ⟨some 6,.mv (.t 0),none⟩,
 ⟨some 7,.append 1 1 (.t 5) (.t 6),none⟩,
 ⟨some 2,.mv (.t 7),none⟩] [2])
 .ret)))⟩

def h_bandboxlaw14_JournalKnown : Hint := [(0,[],[]),(1,[18],[]),(2,[0],[]),(3,[1],[]),(4,[1,3],[]),(5,[1,3,5],[]),(6,[1,3,5,6],[]),(7,[1,3,5,6,7],[]),(8,[1,3,5,6,7],[]),(9,[1,3,5,6,7,8],[]),(10,[1,3,5,6,7,8,9],[]),(11,[1,3,5,6,7,8,9],[]),(12,[1,3,5,6,7,8,9],[]),(13,[1,3,5,6,7,8,9],[]),(14,[1,3,5,6,7,8,9,10],[]),(15,[1,3,5,6,7,8,9,10,12],[]),(16,[1,3,5,6,7,8,9,10,12],[]),(17,[1,5,6,7,8,9,10,12,13,14],[]),(18,[5,6,7,8,9,10,12,13,14,15,16],[]),(19,[5,6,7,8,9,10,12,13,14,15,16,81],[]),(20,[0],[]),(21,[0],[])]
def ir_bandboxlaw14_JournalKnown_82 : ACode := (.seq (.ops [
 ⟨some 82,.mv (.t 5),none⟩,
 ⟨some 83,.bin .eql (.t 82) (.c (.int .i64 2)),none⟩,
 ⟨some 84,.mv (.t 83),none⟩,
 ⟨some 85,.mv (.t 6),(some (84,true))⟩,
 ⟨some 86,.bin .eql (.t 85) (.c (.int .i64 0)),(some (84,true))⟩,
 ⟨some 87,.pick (.t 84) (.t 86) (.c (.bool false)),none⟩,
 ⟨some 88,.mv (.t 87),none⟩,
 ⟨some 89,.mv (.t 7),(some (88,true))⟩,
 ⟨some 90,.bin .eql (.t 89) (.c (.int .i64 2)),(some (88,true))⟩,
 ⟨some 91,.pick (.t 88) (.t 90) (.c (.bool false)),none⟩,
 ⟨some 92,.mv (.t 91),none⟩,
 ⟨some 93,.mv (.t 8),(some (92,true))⟩,
 ⟨some 94,.bin .eql (.t 93) (.c (.int .i64 0)),(some (92,true))⟩,
 ⟨some 95,.pick (.t 92) (.t 94) (.c (.bool false)),none⟩,
 ⟨some 96,.mv (.t 95),none⟩,
 ⟨some 97,.mv (.t 9),(some (96,true))⟩,
 ⟨some 98,.bin .eql (.t 97) (.c (.int .i64 0)),(some (96,true))⟩,
 ⟨some 99,.pick (.t 96) (.t 98) (.c (.bool false)),none⟩,
 ⟨some 100,.mv (.t 99),none⟩,
 ⟨some 101,.mv (.t 10),(some (100,true))⟩,
 ⟨some 102,.bin .eql (.t 101) (.c (.int .i64 7)),(some (100,true))⟩,
 ⟨some 103,.pick (.t 100) (.t 102) (.c (.bool false)),none⟩,
 ⟨some 104,.mv (.t 103),none⟩,
 ⟨some 105,.mv (.t 12),(some (104,true))⟩,
 ⟨some 106,.bin .eql (.t 105) (.c (.int .i64 7)),(some (104,true))⟩,
 ⟨some 107,.pick (.t 104) (.t 106) (.c (.bool false)),none⟩,
 ⟨some 108,.mv (.t 107),none⟩,
 ⟨some 109,.mv (.t 13),(some (108,true))⟩,
 ⟨some 110,.bin .eql (.t 109) (.c (.int .i64 7)),(some (108,true))⟩,
 ⟨some 111,.pick (.t 108) (.t 110) (.c (.bool false)),none⟩,
 ⟨some 112,.mv (.t 111),none⟩,
 ⟨some 113,.mv (.t 14),(some (112,true))⟩,
 ⟨some 114,.pick (.t 112) (.t 113) (.c (.bool false)),none⟩,
 ⟨some 115,.mv (.t 114),none⟩,
 ⟨some 116,.mv (.t 16),(some (115,true))⟩,
 ⟨some 117,.bin .eql (.t 116) (.c (.int .i64 0)),(some (115,true))⟩,
 ⟨some 118,.pick (.t 115) (.t 117) (.c (.bool false)),none⟩,
 ⟨some 119,.mv (.t 118),none⟩,
 ⟨some 120,.mv (.t 15),(some (119,true))⟩,
 ⟨some 121,.call 210 [.t 120],(some (119,true))⟩,
 ⟨some 122,.strOf (.t 121),(some (119,true))⟩,
 ⟨some 123,.bin .eql (.t 122) (.c (.string ⟨#[98,97,115,101]⟩)),(some (119,true))⟩,
 ⟨some 124,.pick (.t 119) (.t 123) (.c (.bool false)),none⟩,
 ⟨some 125,.mv (.t 124),none⟩,
 ⟨some 126,.mv (.t 15),(some (125,true))⟩,
 ⟨some 127,.call 206 [.t 126],(some (125,true))⟩,
 ⟨some 128,.bslice 1 1 ([.int .u8 0]) [(0,1,.c (.int .u8 113))],(some (125,true))⟩,
 ⟨some 129,.mark (.t 128),(some (125,true))⟩,
 ⟨some 130,.bslice 1 1 ([.slice none 0 0]) [(0,1,.t 129)],(some (125,true))⟩,
 ⟨some 131,.call 207 [.t 127,.t 130],(some (125,true))⟩,
 ⟨some 132,.pick (.t 125) (.t 131) (.c (.bool false)),none⟩,
 ⟨some 133,.mv (.t 132),none⟩,
 ⟨some 134,.mv (.t 15),(some (133,true))⟩,
 ⟨some 135,.call 208 [.t 134],(some (133,true))⟩,
 ⟨some 136,.un .not (.t 135),(some (133,true))⟩,
 ⟨some 137,.pick (.t 133) (.t 136) (.c (.bool false)),none⟩,
 ⟨some 0,.mv (.t 137),none⟩] [0])
 .ret)
def ir_bandboxlaw14_JournalKnown_65 : ACode := (.seq (.ops [
 ⟨some 65,.mv (.t 1),none⟩,
 ⟨some 66,.call 203 [.t 65],none⟩,
 ⟨some 64,.mv (.t 66),none⟩,
 ⟨some 67,.ext (.t 64) 0,none⟩,
 ⟨some 68,.ext (.t 64) 1,none⟩,
 ⟨some 11,.mv (.t 67),none⟩,
 ⟨some 12,.mv (.t 68),none⟩] [1,3,5,6,7,8,9,10,12])
 (.seq (.ops [
 ⟨some 69,.mv (.t 1),none⟩,
 ⟨some 70,.call 30 [.t 69],none⟩] [1,3,5,6,7,8,9,10,12])
 (.seq (.ops [
 ⟨some 71,.mv (.t 3),none⟩,
 ⟨some 72,.call 205 [.t 71],none⟩,
 ⟨some 73,.mv (.t 3),none⟩,
 ⟨some 74,.call 208 [.t 73],none⟩,
 ⟨some 13,.mv (.t 72),none⟩,
 ⟨some 14,.mv (.t 74),none⟩] [1,5,6,7,8,9,10,12,13,14])
 (.seq (.ops [
 ⟨some 76,.mv (.t 1),none⟩,
 ⟨some 77,.call 203 [.t 76],none⟩,
 ⟨some 75,.mv (.t 77),none⟩,
 ⟨some 78,.ext (.t 75) 0,none⟩,
 ⟨some 79,.ext (.t 75) 1,none⟩,
 ⟨some 15,.mv (.t 78),none⟩,
 ⟨some 16,.mv (.t 79),none⟩] [5,6,7,8,9,10,12,13,14,15,16])
 (.seq (.seq (.ops [
 ⟨some 80,.mv (.t 15),none⟩,
 ⟨some 81,.eqv .ptr false (.t 80) (.c (.pointer none)),none⟩] [5,6,7,8,9,10,12,13,14,15,16,81])
 (.cond (.t 81)
 (.seq (.ops [
 ⟨some 0,.mv (.c (.bool false)),none⟩] [0])
 .ret)
 .skip))
 ir_bandboxlaw14_JournalKnown_82)))))
def ir_bandboxlaw14_JournalKnown_49 : ACode := (.seq (.ops [
 ⟨some 49,.mv (.t 3),none⟩,
 ⟨some 50,.call 206 [.t 49],none⟩,
 ⟨some 51,.lenS (.t 50),none⟩,
 ⟨some 9,.mv (.t 51),none⟩] [1,3,5,6,7,8,9])
 (.seq (.ops [
 ⟨some 52,.mv (.t 3),none⟩,
 ⟨some 53,.bslice 1 1 ([.int .u8 0]) [(0,1,.c (.int .u8 113))],none⟩,
 ⟨some 54,.mark (.t 53),none⟩,
 ⟨some 55,.bslice 1 1 ([.slice none 0 0]) [(0,1,.t 54)],none⟩,
 ⟨some 56,.call 204 [.t 52,.t 55],none⟩] [1,3,5,6,7,8,9])
 (.seq (.ops [
 ⟨some 57,.mv (.t 3),none⟩,
 ⟨some 58,.call 205 [.t 57],none⟩] [1,3,5,6,7,8,9])
 (.seq (.ops [
 ⟨some 59,.mv (.t 1),none⟩,
 ⟨some 60,.call 29 [.t 59,.c (.int .u64 0),.c (.int .i64 0)],none⟩] [1,3,5,6,7,8,9])
 (.seq (.ops [
 ⟨some 61,.mv (.t 3),none⟩,
 ⟨some 62,.bslice 1 1 ([.slice none 0 0]) [(0,1,.c (.slice none 0 0))],none⟩,
 ⟨some 63,.call 204 [.t 61,.t 62],none⟩,
 ⟨some 10,.mv (.t 63),none⟩] [1,3,5,6,7,8,9,10])
 ir_bandboxlaw14_JournalKnown_65)))))
def ir_bandboxlaw14_JournalKnown_34 : ACode := (.seq (.ops [
 ⟨some 34,.mv (.t 3),none⟩,
 ⟨some 35,.call 206 [.t 34],none⟩,
 ⟨some 36,.lenS (.t 35),none⟩,
 ⟨some 6,.mv (.t 36),none⟩] [1,3,5,6])
 (.seq (.ops [
 ⟨some 37,.mv (.t 3),none⟩,
 ⟨some 38,.mslice 1 ([.int .u8 0]) (.c (.int .i64 65537)) (.c (.int .i64 65537)),none⟩,
 ⟨some 39,.call 209 [.t 37,.t 38],none⟩,
 ⟨some 7,.mv (.t 39),none⟩] [1,3,5,6,7])
 (.seq (.ops [
 ⟨some 40,.mv (.t 3),none⟩,
 ⟨some 41,.bslice 1 1 ([.int .u8 0]) [(0,1,.c (.int .u8 112))],none⟩,
 ⟨some 42,.mark (.t 41),none⟩,
 ⟨some 43,.bslice 1 1 ([.slice none 0 0]) [(0,1,.t 42)],none⟩,
 ⟨some 44,.call 204 [.t 40,.t 43],none⟩] [1,3,5,6,7])
 (.seq (.ops [
 ⟨some 45,.mv (.t 3),none⟩,
 ⟨some 46,.bslice 4 1 ([.int .u8 0]) [(0,1,.c (.int .u8 98)),(1,1,.c (.int .u8 97)),(2,1,.c (.int .u8 115)),(3,1,.c (.int .u8 101))],none⟩,
 ⟨some 47,.mark (.t 46),none⟩,
 ⟨some 48,.call 209 [.t 45,.t 47],none⟩,
 ⟨some 8,.mv (.t 48),none⟩] [1,3,5,6,7,8])
 ir_bandboxlaw14_JournalKnown_49))))
def ir_bandboxlaw14_JournalKnown : AFunc := ⟨0,138,[.tmp 0],
 (.seq (.ops [
 ⟨some 0,.mv (.c (.bool false)),none⟩] [])
 (.seq (.seq (.ops [
 ⟨some 17,.call 202 [],none⟩,
 ⟨some 18,.un .not (.t 17),none⟩] [18])
 (.cond (.t 18)
 (.seq (.ops [
 ⟨some 0,.mv (.c (.bool false)),none⟩] [0])
 .ret)
 .skip))
 (.seq (.ops [
 ⟨some 20,.call 27 [.c (.int .i64 262144)],none⟩,
 ⟨some 19,.mv (.t 20),none⟩,
 ⟨some 21,.ext (.t 19) 0,none⟩,
 ⟨some 22,.ext (.t 19) 1,none⟩,
 ⟨some 1,.mv (.t 21),none⟩,
 ⟨some 2,.mv (.t 22),none⟩] [1])
 (.seq (.ops [
 ⟨some 24,.mv (.t 1),none⟩,
 ⟨some 25,.call 203 [.t 24],none⟩,
 ⟨some 23,.mv (.t 25),none⟩,
 ⟨some 26,.ext (.t 23) 0,none⟩,
 ⟨some 27,.ext (.t 23) 1,none⟩,
 ⟨some 3,.mv (.t 26),none⟩,
 ⟨some 4,.mv (.t 27),none⟩] [1,3])
 (.seq (.ops [
 ⟨some 28,.mv (.t 3),none⟩,
 ⟨some 29,.bslice 1 1 ([.int .u8 0]) [(0,1,.c (.int .u8 120))],none⟩,
 ⟨some 30,.mark (.t 29),none⟩,
 ⟨some 31,.mslice 1 ([.int .u8 0]) (.c (.int .i64 16385)) (.c (.int .i64 16385)),none⟩,
 ⟨some 32,.bslice 2 1 ([.slice none 0 0]) [(0,1,.t 30),(1,1,.t 31)],none⟩,
 ⟨some 33,.call 204 [.t 28,.t 32],none⟩,
 ⟨some 5,.mv (.t 33),none⟩] [1,3,5])
 ir_bandboxlaw14_JournalKnown_34)))))⟩

def h_bandboxlaw14_awake : Hint := [(0,[],[]),(1,[1],[]),(2,[1,3,4],[]),(3,[1,3,25],[]),(4,[0],[]),(5,[1,3,5,6,7],[]),(6,[1,5,6,7,8],[]),(7,[1,5,6,7,8],[]),(8,[1,5,6,7,8],[]),(9,[5,6,7,8,9,10],[]),(10,[5,6,7,8,9,54],[]),(11,[0],[]),(12,[0],[])]
def ir_bandboxlaw14_awake_55 : ACode := (.seq (.ops [
 ⟨some 55,.mv (.t 5),none⟩,
 ⟨some 56,.bin .eql (.t 55) (.c (.int .i64 0)),none⟩,
 ⟨some 57,.mv (.t 56),none⟩,
 ⟨some 58,.mv (.t 6),(some (57,true))⟩,
 ⟨some 59,.bin .eql (.t 58) (.c (.int .i64 0)),(some (57,true))⟩,
 ⟨some 60,.pick (.t 57) (.t 59) (.c (.bool false)),none⟩,
 ⟨some 61,.mv (.t 60),none⟩,
 ⟨some 62,.mv (.t 7),(some (61,true))⟩,
 ⟨some 63,.bin .eql (.t 62) (.c (.int .i64 0)),(some (61,true))⟩,
 ⟨some 64,.pick (.t 61) (.t 63) (.c (.bool false)),none⟩,
 ⟨some 65,.mv (.t 64),none⟩,
 ⟨some 66,.mv (.t 8),(some (65,true))⟩,
 ⟨some 67,.bslice 1 1 ([.int .u8 0]) [(0,1,.c (.int .u8 120))],(some (65,true))⟩,
 ⟨some 68,.mark (.t 67),(some (65,true))⟩,
 ⟨some 69,.bslice 1 1 ([.int .u8 0]) [(0,1,.c (.int .u8 121))],(some (65,true))⟩,
 ⟨some 70,.mark (.t 69),(some (65,true))⟩,
 ⟨some 71,.bslice 2 1 ([.slice none 0 0]) [(0,1,.t 68),(1,1,.t 70)],(some (65,true))⟩,
 ⟨some 72,.call 207 [.t 66,.t 71],(some (65,true))⟩,
 ⟨some 73,.pick (.t 65) (.t 72) (.c (.bool false)),none⟩,
 ⟨some 74,.mv (.t 73),none⟩,
 ⟨some 75,.mv (.t 9),(some (74,true))⟩,
 ⟨some 76,.call 206 [.t 75],(some (74,true))⟩,
 ⟨some 77,.bslice 1 1 ([.int .u8 0]) [(0,1,.c (.int .u8 120))],(some (74,true))⟩,
 ⟨some 78,.mark (.t 77),(some (74,true))⟩,
 ⟨some 79,.bslice 1 1 ([.slice none 0 0]) [(0,1,.t 78)],(some (74,true))⟩,
 ⟨some 80,.call 207 [.t 76,.t 79],(some (74,true))⟩,
 ⟨some 81,.pick (.t 74) (.t 80) (.c (.bool false)),none⟩,
 ⟨some 82,.mv (.t 81),none⟩,
 ⟨some 83,.mv (.t 9),(some (82,true))⟩,
 ⟨some 84,.call 210 [.t 83],(some (82,true))⟩,
 ⟨some 85,.lenS (.t 84),(some (82,true))⟩,
 ⟨some 86,.bin .eql (.t 85) (.c (.int .i64 0)),(some (82,true))⟩,
 ⟨some 87,.pick (.t 82) (.t 86) (.c (.bool false)),none⟩,
 ⟨some 0,.mv (.t 87),none⟩] [0])
 .ret)
def ir_bandboxlaw14_awake_38 : ACode := (.seq (.ops [
 ⟨some 38,.mv (.t 3),none⟩,
 ⟨some 39,.call 206 [.t 38],none⟩,
 ⟨some 8,.mv (.t 39),none⟩] [1,5,6,7,8])
 (.seq (.ops [
 ⟨some 40,.mv (.t 1),none⟩,
 ⟨some 41,.call 29 [.t 40,.c (.int .u64 0),.c (.int .i64 0)],none⟩] [1,5,6,7,8])
 (.seq (.ops [
 ⟨some 42,.mv (.t 1),none⟩,
 ⟨some 43,.call 30 [.t 42],none⟩] [1,5,6,7,8])
 (.seq (.ops [
 ⟨some 45,.mv (.t 1),none⟩,
 ⟨some 46,.call 203 [.t 45],none⟩,
 ⟨some 44,.mv (.t 46),none⟩,
 ⟨some 47,.ext (.t 44) 0,none⟩,
 ⟨some 48,.ext (.t 44) 1,none⟩,
 ⟨some 9,.mv (.t 47),none⟩,
 ⟨some 10,.mv (.t 48),none⟩] [5,6,7,8,9,10])
 (.seq (.seq (.ops [
 ⟨some 49,.mv (.t 10),none⟩,
 ⟨some 50,.bin .neq (.t 49) (.c (.int .i64 0)),none⟩,
 ⟨some 51,.mv (.t 50),none⟩,
 ⟨some 52,.mv (.t 9),(some (51,false))⟩,
 ⟨some 53,.eqv .ptr false (.t 52) (.c (.pointer none)),(some (51,false))⟩,
 ⟨some 54,.pick (.t 51) (.c (.bool true)) (.t 53),none⟩] [5,6,7,8,9,54])
 (.cond (.t 54)
 (.seq (.ops [
 ⟨some 0,.mv (.c (.bool false)),none⟩] [0])
 .ret)
 .skip))
 ir_bandboxlaw14_awake_55)))))
def ir_bandboxlaw14_awake_20 : ACode := (.seq (.seq (.ops [
 ⟨some 20,.mv (.t 4),none⟩,
 ⟨some 21,.bin .neq (.t 20) (.c (.int .i64 0)),none⟩,
 ⟨some 22,.mv (.t 21),none⟩,
 ⟨some 23,.mv (.t 3),(some (22,false))⟩,
 ⟨some 24,.eqv .ptr false (.t 23) (.c (.pointer none)),(some (22,false))⟩,
 ⟨some 25,.pick (.t 22) (.c (.bool true)) (.t 24),none⟩] [1,3,25])
 (.cond (.t 25)
 (.seq (.ops [
 ⟨some 0,.mv (.c (.bool false)),none⟩] [0])
 .ret)
 .skip))
 (.seq (.ops [
 ⟨some 26,.mv (.t 3),none⟩,
 ⟨some 27,.bslice 1 1 ([.int .u8 0]) [(0,1,.c (.int .u8 120))],none⟩,
 ⟨some 28,.mark (.t 27),none⟩,
 ⟨some 29,.bslice 1 1 ([.slice none 0 0]) [(0,1,.t 28)],none⟩,
 ⟨some 30,.call 204 [.t 26,.t 29],none⟩,
 ⟨some 31,.mv (.t 3),none⟩,
 ⟨some 32,.call 205 [.t 31],none⟩,
 ⟨some 33,.mv (.t 3),none⟩,
 ⟨some 34,.bslice 1 1 ([.int .u8 0]) [(0,1,.c (.int .u8 121))],none⟩,
 ⟨some 35,.mark (.t 34),none⟩,
 ⟨some 36,.bslice 1 1 ([.slice none 0 0]) [(0,1,.t 35)],none⟩,
 ⟨some 37,.call 204 [.t 33,.t 36],none⟩,
 ⟨some 5,.mv (.t 30),none⟩,
 ⟨some 6,.mv (.t 32),none⟩,
 ⟨some 7,.mv (.t 37),none⟩] [1,3,5,6,7])
 ir_bandboxlaw14_awake_38))
def ir_bandboxlaw14_awake : AFunc := ⟨0,88,[.tmp 0],
 (.seq (.ops [
 ⟨some 0,.mv (.c (.bool false)),none⟩] [])
 (.seq (.ops [
 ⟨some 12,.call 27 [.c (.int .i64 10000)],none⟩,
 ⟨some 11,.mv (.t 12),none⟩,
 ⟨some 13,.ext (.t 11) 0,none⟩,
 ⟨some 14,.ext (.t 11) 1,none⟩,
 ⟨some 1,.mv (.t 13),none⟩,
 ⟨some 2,.mv (.t 14),none⟩] [1])
 (.seq (.ops [
 ⟨some 16,.mv (.t 1),none⟩,
 ⟨some 17,.call 203 [.t 16],none⟩,
 ⟨some 15,.mv (.t 17),none⟩,
 ⟨some 18,.ext (.t 15) 0,none⟩,
 ⟨some 19,.ext (.t 15) 1,none⟩,
 ⟨some 3,.mv (.t 18),none⟩,
 ⟨some 4,.mv (.t 19),none⟩] [1,3,4])
 ir_bandboxlaw14_awake_20)))⟩

def h_journal_Open : Hint := [(0,[0],[]),(1,[0,9],[]),(2,[2,3],[]),(3,[0,4],[]),(4,[0,4,5],[]),(5,[0,4,5,18],[]),(6,[2,3],[]),(7,[4],[]),(8,[4,26],[]),(9,[4],[]),(10,[4,6],[]),(11,[4,6,36],[]),(12,[4,6],[]),(13,[2,3],[])]
def ir_journal_Open_22 : ACode := (.seq (.seq (.ops [
 ⟨some 22,.mv (.t 4),none⟩,
 ⟨some 23,.nilc (.t 22),none⟩,
 ⟨some 24,.faddr 2 (.t 23),none⟩,
 ⟨some 25,.load none (.t 24),none⟩,
 ⟨some 26,.bin .gtr (.t 25) (.c (.int .u64 0)),none⟩] [4,26])
 (.cond (.t 26)
 (.ops [
 ⟨some 27,.mv (.t 4),none⟩,
 ⟨some 28,.mv (.t 4),none⟩,
 ⟨some 29,.nilc (.t 28),none⟩,
 ⟨some 30,.faddr 2 (.t 29),none⟩,
 ⟨some 31,.load none (.t 30),none⟩,
 ⟨some 32,.bin .sub (.t 31) (.c (.int .u64 1)),none⟩,
 ⟨some 33,.call 212 [.t 27,.t 32],none⟩] [4])
 .skip))
 (.seq (.seq (.ops [
 ⟨some 6,.mv (.c (.int .i64 0)),none⟩] [4,6])
 (.block 0 (.loop (.seq (.seq (.ops [
 ⟨some 34,.mv (.t 4),none⟩,
 ⟨some 35,.mv (.t 6),none⟩,
 ⟨some 36,.call 213 [.t 34,.t 35],none⟩] [4,6,36])
 (.cond (.t 36)
 .skip
 (.exit 0)))
 (.seq (.block 1 .skip)
 (.ops [
 ⟨some 37,.mv (.t 6),none⟩,
 ⟨some 38,.bin .add (.t 37) (.c (.int .i64 1)),none⟩,
 ⟨some 6,.mv (.t 38),none⟩] [4,6]))))))
 (.seq (.ops [
 ⟨some 39,.mv (.t 4),none⟩,
 ⟨some 2,.mv (.t 39),none⟩,
 ⟨some 3,.mv (.c (.int .i64 0)),none⟩] [2,3])
 .ret)))
def ir_journal_Open_7 : ACode := (.seq (.seq (.ops [
 ⟨some 7,.mv (.t 0),none⟩,
 ⟨some 8,.call 52 [.t 7],none⟩,
 ⟨some 9,.un .not (.t 8),none⟩] [0,9])
 (.cond (.t 9)
 (.seq (.ops [
 ⟨some 2,.mv (.c (.pointer none)),none⟩,
 ⟨some 3,.mv (.c (.int .i64 7)),none⟩] [2,3])
 .ret)
 .skip))
 (.seq (.ops [
 ⟨some 10,.mv (.t 0),none⟩,
 ⟨some 11,.mv (.t 0),none⟩,
 ⟨some 12,.call 51 [.t 11],none⟩,
 ⟨some 13,.build ([.pointer none,.int .i64 0,.int .u64 0,.int .i64 0,.bool false,.slice none 0 0,.slice none 0 0,.bool false]) [(0,1,.t 10),(1,1,.t 12)],none⟩,
 ⟨some 14,.box (.t 13),none⟩,
 ⟨some 4,.mv (.t 14),none⟩] [0,4])
 (.seq (.seq (.ops [
 ⟨some 15,.mv (.t 4),none⟩,
 ⟨some 16,.call 211 [.t 15],none⟩,
 ⟨some 5,.mv (.t 16),none⟩] [0,4,5])
 (.seq (.ops [
 ⟨some 17,.mv (.t 5),none⟩,
 ⟨some 18,.bin .neq (.t 17) (.c (.int .i64 0)),none⟩] [0,4,5,18])
 (.cond (.t 18)
 (.seq (.ops [
 ⟨some 19,.mv (.t 5),none⟩,
 ⟨some 2,.mv (.c (.pointer none)),none⟩,
 ⟨some 3,.mv (.t 19),none⟩] [2,3])
 .ret)
 .skip)))
 (.seq (.ops [
 ⟨some 20,.mv (.t 0),none⟩,
 ⟨some 21,.call 104 [.t 20,.c (.string ⟨#[110,101,119]⟩)],none⟩] [4])
 ir_journal_Open_22))))
def ir_journal_Open : AFunc := ⟨1,40,[.tmp 2,.tmp 3],
 (.seq (.ops [
 ⟨some 2,.mv (.c (.pointer none)),none⟩,
 ⟨some 3,.mv (.c (.int .i64 0)),none⟩] [0])
 ir_journal_Open_7)⟩

def h_journal_Journal_Add : Hint := [(0,[0,1],[]),(1,[0,1,13],[]),(2,[4],[]),(3,[0,1,14,15,16],[]),(4,[0,1,14,15,16,17],[]),(5,[0,1,6,14,15,16],[]),(6,[0,1,14,15,16,22],[]),(7,[4],[]),(8,[0,1,14,15,16],[]),(9,[0,1,24,25,26],[]),(10,[0,1,24,25,26,27],[]),(11,[0,1,8,24,25,26],[]),(12,[0,1,9,24,25,26],[(4,0),(5,0),(6,0),(7,0),(8,0),(9,0),(10,0),(11,0),(12,0),(13,1),(14,0),(0,2),(1,2),(2,2),(3,2),(15,0),(16,0)]),(13,[0,1,9,24,25,26,47],[]),(14,[4],[]),(15,[0,1,24,25,26],[]),(16,[0,1,24,25,26],[]),(17,[0,55,56,57],[]),(18,[0,55,56,57,58],[]),(19,[0,11,55,56,57],[]),(20,[0,55,56,57],[(5,0),(6,0),(1,1),(2,1),(3,1),(4,1),(7,0),(8,0),(0,2),(9,0),(10,0),(11,0)]),(21,[0,55,56,57],[]),(22,[4],[])]
def ir_journal_Journal_Add_34 : ACode := (.seq (.seq (.dops [
 ⟨4,some 34,.mv (.t 0),none,0⟩,
 ⟨5,some 35,.nilc (.t 34),none,0⟩,
 ⟨6,some 36,.faddr 2 (.t 35),none,0⟩,
 ⟨7,some 37,.load none (.t 36),none,0⟩,
 ⟨8,some 38,.mv (.t 0),none,0⟩,
 ⟨9,some 39,.nilc (.t 38),none,0⟩,
 ⟨10,some 40,.faddr 3 (.t 39),none,0⟩,
 ⟨11,some 41,.load none (.t 40),none,0⟩,
 ⟨12,some 42,.call 214 [.t 37,.t 41],none,0⟩,
 ⟨13,some 43,.mv (.t 8),none,1⟩,
 ⟨14,some 44,.call 215 [.t 43],none,0⟩,
 ⟨0,some 30,.mv (.t 0),none,2⟩,
 ⟨1,some 31,.nilc (.t 30),none,2⟩,
 ⟨2,some 32,.faddr 0 (.t 31),none,2⟩,
 ⟨3,some 33,.load none (.t 32),none,2⟩,
 ⟨15,some 45,.call 28 [.t 33,.t 42,.t 44],none,0⟩,
 ⟨16,some 9,.mv (.t 45),none,0⟩] [0,1,9,24,25,26])
 (.seq (.ops [
 ⟨some 46,.mv (.t 9),none⟩,
 ⟨some 47,.bin .neq (.t 46) (.c (.int .i64 0)),none⟩] [0,1,9,24,25,26,47])
 (.cond (.t 47)
 (.seq (.ops [
 ⟨some 48,.mv (.t 0),none⟩,
 ⟨some 49,.mv (.t 9),none⟩,
 ⟨some 50,.call 216 [.t 48,.t 49],none⟩,
 ⟨some 4,.mv (.t 50),none⟩] [4])
 .ret)
 .skip)))
 (.ops [
 ⟨some 51,.mv (.t 0),none⟩,
 ⟨some 52,.nilc (.t 51),none⟩,
 ⟨some 53,.faddr 4 (.t 52),none⟩,
 ⟨none,.store 1 (.t 53) (.c (.bool true)),none⟩] [0,1,24,25,26]))
def ir_journal_Journal_Add_55 : ACode := (.seq (.seq (.ops [
 ⟨some 55,.mv (.t 1),none⟩,
 ⟨some 56,.lenS (.t 55),none⟩,
 ⟨some 57,.mv (.c (.int .i64 0)),none⟩] [0,55,56,57])
 (.block 4 (.loop (.seq (.ops [
 ⟨some 58,.bin .lss (.t 57) (.t 56),none⟩] [0,55,56,57,58])
 (.seq (.cond (.t 58)
 .skip
 (.exit 4))
 (.seq (.block 5 (.seq (.ops [
 ⟨some 59,.iaddrS 1 (.t 55) (.t 57),none⟩,
 ⟨some 60,.load none (.t 59),none⟩,
 ⟨some 11,.mv (.t 60),none⟩] [0,11,55,56,57])
 (.dops [
 ⟨5,some 66,.mv (.t 11),none,0⟩,
 ⟨6,some 67,.call 158 [.t 66],none,0⟩,
 ⟨1,some 62,.mv (.t 0),none,1⟩,
 ⟨2,some 63,.nilc (.t 62),none,1⟩,
 ⟨3,some 64,.faddr 6 (.t 63),none,1⟩,
 ⟨4,some 65,.load none (.t 64),none,1⟩,
 ⟨7,some 68,.bslice 1 1 ([.slice none 0 0]) [(0,1,.t 67)],none,0⟩,
 ⟨8,some 69,.append 1 24 (.t 65) (.t 68),none,0⟩,
 ⟨0,some 61,.mv (.t 0),none,2⟩,
 ⟨9,some 70,.nilc (.t 61),none,0⟩,
 ⟨10,some 71,.faddr 6 (.t 70),none,0⟩,
 ⟨11,none,.store 1 (.t 71) (.t 69),none,0⟩] [0,55,56,57])))
 (.ops [
 ⟨some 72,.bin .add (.t 57) (.c (.int .i64 1)),none⟩,
 ⟨some 57,.mv (.t 72),none⟩] [0,55,56,57])))))))
 (.seq (.ops [
 ⟨some 4,.mv (.c (.int .i64 0)),none⟩] [4])
 .ret))
def ir_journal_Journal_Add_24 : ACode := (.seq (.seq (.ops [
 ⟨some 24,.mv (.t 1),none⟩,
 ⟨some 25,.lenS (.t 24),none⟩,
 ⟨some 26,.mv (.c (.int .i64 0)),none⟩] [0,1,24,25,26])
 (.block 2 (.loop (.seq (.ops [
 ⟨some 27,.bin .lss (.t 26) (.t 25),none⟩] [0,1,24,25,26,27])
 (.seq (.cond (.t 27)
 .skip
 (.exit 2))
 (.seq (.block 3 (.seq (.ops [
 ⟨some 28,.iaddrS 1 (.t 24) (.t 26),none⟩,
 ⟨some 29,.load none (.t 28),none⟩,
 ⟨some 8,.mv (.t 29),none⟩] [0,1,8,24,25,26])
 ir_journal_Journal_Add_34))
 (.ops [
 ⟨some 54,.bin .add (.t 26) (.c (.int .i64 1)),none⟩,
 ⟨some 26,.mv (.t 54),none⟩] [0,1,24,25,26])))))))
 ir_journal_Journal_Add_55)
def ir_journal_Journal_Add : AFunc := ⟨2,73,[.tmp 4],
 (.seq (.ops [
 ⟨some 4,.mv (.c (.int .i64 0)),none⟩] [0,1])
 (.seq (.seq (.ops [
 ⟨some 12,.mv (.t 0),none⟩,
 ⟨some 13,.call 208 [.t 12],none⟩] [0,1,13])
 (.cond (.t 13)
 (.seq (.ops [
 ⟨some 4,.mv (.c (.int .i64 7)),none⟩] [4])
 .ret)
 .skip))
 (.seq (.seq (.ops [
 ⟨some 14,.mv (.t 1),none⟩,
 ⟨some 15,.lenS (.t 14),none⟩,
 ⟨some 16,.mv (.c (.int .i64 0)),none⟩] [0,1,14,15,16])
 (.block 0 (.loop (.seq (.ops [
 ⟨some 17,.bin .lss (.t 16) (.t 15),none⟩] [0,1,14,15,16,17])
 (.seq (.cond (.t 17)
 .skip
 (.exit 0))
 (.seq (.block 1 (.seq (.ops [
 ⟨some 18,.iaddrS 1 (.t 14) (.t 16),none⟩,
 ⟨some 19,.load none (.t 18),none⟩,
 ⟨some 6,.mv (.t 19),none⟩] [0,1,6,14,15,16])
 (.seq (.ops [
 ⟨some 20,.mv (.t 6),none⟩,
 ⟨some 21,.lenS (.t 20),none⟩,
 ⟨some 22,.bin .gtr (.t 21) (.c (.int .i64 16384)),none⟩] [0,1,14,15,16,22])
 (.cond (.t 22)
 (.seq (.ops [
 ⟨some 4,.mv (.c (.int .i64 2)),none⟩] [4])
 .ret)
 .skip))))
 (.ops [
 ⟨some 23,.bin .add (.t 16) (.c (.int .i64 1)),none⟩,
 ⟨some 16,.mv (.t 23),none⟩] [0,1,14,15,16])))))))
 ir_journal_Journal_Add_24)))⟩

def h_journal_Journal_Sync : Hint := [(0,[0],[]),(1,[0,4],[]),(2,[2],[]),(3,[0,8],[]),(4,[2],[(4,0),(5,0),(6,0),(7,0),(8,0),(9,0),(10,0),(11,0),(12,0),(0,1),(1,1),(2,1),(3,1),(13,0),(14,0)]),(5,[2],[])]
def ir_journal_Journal_Sync : AFunc := ⟨1,23,[.tmp 2],
 (.seq (.ops [
 ⟨some 2,.mv (.c (.int .i64 0)),none⟩] [0])
 (.seq (.seq (.ops [
 ⟨some 3,.mv (.t 0),none⟩,
 ⟨some 4,.call 208 [.t 3],none⟩] [0,4])
 (.cond (.t 4)
 (.seq (.ops [
 ⟨some 2,.mv (.c (.int .i64 7)),none⟩] [2])
 .ret)
 .skip))
 (.seq (.seq (.ops [
 ⟨some 5,.mv (.t 0),none⟩,
 ⟨some 6,.nilc (.t 5),none⟩,
 ⟨some 7,.faddr 4 (.t 6),none⟩,
 ⟨some 8,.load none (.t 7),none⟩] [0,8])
 (.cond (.t 8)
 (.seq (.dops [
 ⟨4,some 13,.mv (.t 0),none,0⟩,
 ⟨5,some 14,.nilc (.t 13),none,0⟩,
 ⟨6,some 15,.faddr 2 (.t 14),none,0⟩,
 ⟨7,some 16,.load none (.t 15),none,0⟩,
 ⟨8,some 17,.mv (.t 0),none,0⟩,
 ⟨9,some 18,.nilc (.t 17),none,0⟩,
 ⟨10,some 19,.faddr 3 (.t 18),none,0⟩,
 ⟨11,some 20,.load none (.t 19),none,0⟩,
 ⟨12,some 21,.call 214 [.t 16,.t 20],none,0⟩,
 ⟨0,some 9,.mv (.t 0),none,1⟩,
 ⟨1,some 10,.nilc (.t 9),none,1⟩,
 ⟨2,some 11,.faddr 0 (.t 10),none,1⟩,
 ⟨3,some 12,.load none (.t 11),none,1⟩,
 ⟨13,some 22,.call 34 [.t 12,.t 21],none,0⟩,
 ⟨14,some 2,.mv (.t 22),none,0⟩] [2])
 .ret)
 .skip))
 (.seq (.ops [
 ⟨some 2,.mv (.c (.int .i64 0)),none⟩] [2])
 .ret))))⟩

def h_journal_Journal_All : Hint := [(0,[0],[]),(1,[0,3],[]),(2,[3,9,10,11],[]),(3,[3,9,10,11,12],[]),(4,[3,5,9,10,11],[]),(5,[3,9,10,11],[]),(6,[3,9,10,11],[]),(7,[2],[])]
def ir_journal_Journal_All : AFunc := ⟨1,22,[.tmp 2],
 (.seq (.ops [
 ⟨some 2,.mv (.c (.slice none 0 0)),none⟩] [0])
 (.seq (.ops [
 ⟨some 3,.mv (.c (.slice none 0 0)),none⟩] [0,3])
 (.seq (.seq (.ops [
 ⟨some 6,.mv (.t 0),none⟩,
 ⟨some 7,.nilc (.t 6),none⟩,
 ⟨some 8,.faddr 6 (.t 7),none⟩,
 ⟨some 9,.load none (.t 8),none⟩,
 ⟨some 10,.lenS (.t 9),none⟩,
 ⟨some 11,.mv (.c (.int .i64 0)),none⟩] [3,9,10,11])
 (.block 0 (.loop (.seq (.ops [
 ⟨some 12,.bin .lss (.t 11) (.t 10),none⟩] [3,9,10,11,12])
 (.seq (.cond (.t 12)
 .skip
 (.exit 0))
 (.seq (.block 1 (.seq (.ops [
 ⟨some 13,.iaddrS 1 (.t 9) (.t 11),none⟩,
 ⟨some 14,.load none (.t 13),none⟩,
 ⟨some 5,.mv (.t 14),none⟩] [3,5,9,10,11])
 (.ops [
 ⟨some 15,.mv (.t 3),none⟩,
 ⟨some 16,.mv (.t 5),none⟩,
 ⟨some 17,.call 158 [.t 16],none⟩,
 ⟨some 18,.bslice 1 1 ([.slice none 0 0]) [(0,1,.t 17)],none⟩,
 ⟨some 19,.append 1 24 (.t 15) (.t 18),none⟩,
 ⟨some 3,.mv (.t 19),none⟩] [3,9,10,11])))
 (.ops [
 ⟨some 20,.bin .add (.t 11) (.c (.int .i64 1)),none⟩,
 ⟨some 11,.mv (.t 20),none⟩] [3,9,10,11])))))))
 (.seq (.ops [
 ⟨some 21,.mv (.t 3),none⟩,
 ⟨some 2,.mv (.t 21),none⟩] [2])
 .ret))))⟩

def h_bandboxlaw14_same : Hint := [(0,[0,1],[]),(1,[0,1,10],[]),(2,[4],[]),(3,[0,1,5],[]),(4,[0,1,5,14],[]),(5,[0,1,5],[]),(6,[0,1,5,27],[(0,0),(1,0),(2,0),(3,0),(4,0),(5,0),(6,0),(7,0),(8,0),(9,0),(10,0)]),(7,[4],[]),(8,[4],[])]
def ir_bandboxlaw14_same_5 : ACode := (.seq (.seq (.ops [
 ⟨some 5,.mv (.c (.int .i64 0)),none⟩] [0,1,5])
 (.block 0 (.loop (.seq (.seq (.ops [
 ⟨some 11,.mv (.t 5),none⟩,
 ⟨some 12,.mv (.t 0),none⟩,
 ⟨some 13,.lenS (.t 12),none⟩,
 ⟨some 14,.bin .lss (.t 11) (.t 13),none⟩] [0,1,5,14])
 (.cond (.t 14)
 .skip
 (.exit 0)))
 (.seq (.block 1 (.seq (.dops [
 ⟨0,some 17,.mv (.t 0),none,0⟩,
 ⟨1,some 18,.mv (.t 5),none,0⟩,
 ⟨2,some 19,.iaddrS 1 (.t 17) (.t 18),none,0⟩,
 ⟨3,some 20,.load none (.t 19),none,0⟩,
 ⟨4,some 21,.strOf (.t 20),none,0⟩,
 ⟨5,some 22,.mv (.t 1),none,0⟩,
 ⟨6,some 23,.mv (.t 5),none,0⟩,
 ⟨7,some 24,.iaddrS 1 (.t 22) (.t 23),none,0⟩,
 ⟨8,some 25,.load none (.t 24),none,0⟩,
 ⟨9,some 26,.strOf (.t 25),none,0⟩,
 ⟨10,some 27,.bin .neq (.t 21) (.t 26),none,0⟩] [0,1,5,27])
 (.cond (.t 27)
 (.seq (.ops [
 ⟨some 4,.mv (.c (.bool false)),none⟩] [4])
 .ret)
 .skip)))
 (.ops [
 ⟨some 15,.mv (.t 5),none⟩,
 ⟨some 16,.bin .add (.t 15) (.c (.int .i64 1)),none⟩,
 ⟨some 5,.mv (.t 16),none⟩] [0,1,5]))))))
 (.seq (.ops [
 ⟨some 4,.mv (.c (.bool true)),none⟩] [4])
 .ret))
def ir_bandboxlaw14_same : AFunc := ⟨2,28,[.tmp 4],
 (.seq (.ops [
 ⟨some 4,.mv (.c (.bool false)),none⟩] [0,1])
 (.seq (.seq (.ops [
 ⟨some 6,.mv (.t 0),none⟩,
 ⟨some 7,.lenS (.t 6),none⟩,
 ⟨some 8,.mv (.t 1),none⟩,
 ⟨some 9,.lenS (.t 8),none⟩,
 ⟨some 10,.bin .neq (.t 7) (.t 9),none⟩] [0,1,10])
 (.cond (.t 10)
 (.seq (.ops [
 ⟨some 4,.mv (.c (.bool false)),none⟩] [4])
 .ret)
 .skip))
 ir_bandboxlaw14_same_5))⟩

def h_journal_Journal_Done : Hint := [(0,[0],[]),(1,[2],[(0,0),(1,0),(2,0),(3,0),(4,0),(5,0),(6,0),(7,0),(8,0),(9,0),(10,0),(11,0),(12,0),(13,0),(14,0),(15,0),(16,0),(17,0),(18,1),(19,1),(20,1),(21,1),(22,0),(23,0),(24,0)])]
def ir_journal_Journal_Done_3 : ACode := (.seq (.dops [
 ⟨0,some 3,.mv (.t 0),none,0⟩,
 ⟨1,some 4,.nilc (.t 3),none,0⟩,
 ⟨2,some 5,.faddr 7 (.t 4),none,0⟩,
 ⟨3,some 6,.load none (.t 5),none,0⟩,
 ⟨4,some 7,.mv (.t 6),none,0⟩,
 ⟨5,some 8,.mv (.t 0),(some (7,false)),0⟩,
 ⟨6,some 9,.nilc (.t 8),(some (7,false)),0⟩,
 ⟨7,some 10,.faddr 0 (.t 9),(some (7,false)),0⟩,
 ⟨8,some 11,.load none (.t 10),(some (7,false)),0⟩,
 ⟨9,some 12,.call 52 [.t 11],(some (7,false)),0⟩,
 ⟨10,some 13,.un .not (.t 12),(some (7,false)),0⟩,
 ⟨11,some 14,.pick (.t 7) (.c (.bool true)) (.t 13),none,0⟩,
 ⟨12,some 15,.mv (.t 14),none,0⟩,
 ⟨13,some 16,.mv (.t 0),(some (15,false)),0⟩,
 ⟨14,some 17,.nilc (.t 16),(some (15,false)),0⟩,
 ⟨15,some 18,.faddr 0 (.t 17),(some (15,false)),0⟩,
 ⟨16,some 19,.load none (.t 18),(some (15,false)),0⟩,
 ⟨17,some 20,.call 51 [.t 19],(some (15,false)),0⟩,
 ⟨18,some 21,.mv (.t 0),(some (15,false)),1⟩,
 ⟨19,some 22,.nilc (.t 21),(some (15,false)),1⟩,
 ⟨20,some 23,.faddr 1 (.t 22),(some (15,false)),1⟩,
 ⟨21,some 24,.load none (.t 23),(some (15,false)),1⟩,
 ⟨22,some 25,.bin .neq (.t 20) (.t 24),(some (15,false)),0⟩,
 ⟨23,some 26,.pick (.t 15) (.c (.bool true)) (.t 25),none,0⟩,
 ⟨24,some 2,.mv (.t 26),none,0⟩] [2])
 .ret)
def ir_journal_Journal_Done : AFunc := ⟨1,27,[.tmp 2],
 (.seq (.ops [
 ⟨some 2,.mv (.c (.bool false)),none⟩] [0])
 ir_journal_Journal_Done_3)⟩

def h_journal_Journal_Keep : Hint := [(0,[0,1],[]),(1,[0,1,7],[]),(2,[4],[]),(3,[0,1,10],[]),(4,[4],[]),(5,[0,1,5],[]),(6,[0,1,6],[(4,0),(5,0),(0,1),(1,1),(2,1),(3,1),(6,0),(7,0)]),(7,[0,1,6,30],[]),(8,[4],[]),(9,[0,1],[]),(10,[0,1],[]),(11,[0,1],[]),(12,[0,1],[]),(13,[0,1],[]),(14,[],[]),(15,[4],[])]
def ir_journal_Journal_Keep_50 : ACode := (.seq (.ops [
 ⟨some 50,.mv (.t 0),none⟩,
 ⟨some 51,.nilc (.t 50),none⟩,
 ⟨some 52,.faddr 2 (.t 51),none⟩,
 ⟨some 53,.load none (.t 52),none⟩,
 ⟨some 54,.bin .add (.t 53) (.c (.int .u64 1)),none⟩,
 ⟨some 55,.nilc (.t 50),none⟩,
 ⟨some 56,.faddr 2 (.t 55),none⟩,
 ⟨none,.store 1 (.t 56) (.t 54),none⟩] [0,1])
 (.seq (.ops [
 ⟨some 57,.mv (.t 0),none⟩,
 ⟨some 58,.mv (.t 0),none⟩,
 ⟨some 59,.nilc (.t 57),none⟩,
 ⟨some 60,.faddr 3 (.t 59),none⟩,
 ⟨none,.store 1 (.t 60) (.c (.int .i64 0)),none⟩,
 ⟨some 61,.nilc (.t 58),none⟩,
 ⟨some 62,.faddr 4 (.t 61),none⟩,
 ⟨none,.store 1 (.t 62) (.c (.bool false)),none⟩] [0,1])
 (.seq (.ops [
 ⟨some 63,.mv (.t 0),none⟩,
 ⟨some 64,.mv (.t 0),none⟩,
 ⟨some 65,.mv (.t 1),none⟩,
 ⟨some 66,.call 158 [.t 65],none⟩,
 ⟨some 67,.nilc (.t 63),none⟩,
 ⟨some 68,.faddr 5 (.t 67),none⟩,
 ⟨none,.store 1 (.t 68) (.t 66),none⟩,
 ⟨some 69,.nilc (.t 64),none⟩,
 ⟨some 70,.faddr 6 (.t 69),none⟩,
 ⟨none,.store 1 (.t 70) (.c (.slice none 0 0)),none⟩] [])
 (.seq (.ops [
 ⟨some 4,.mv (.c (.int .i64 0)),none⟩] [4])
 .ret))))
def ir_journal_Journal_Keep_34 : ACode := (.seq (.ops [
 ⟨some 34,.mv (.t 0),none⟩,
 ⟨some 35,.nilc (.t 34),none⟩,
 ⟨some 36,.faddr 0 (.t 35),none⟩,
 ⟨some 37,.load none (.t 36),none⟩,
 ⟨some 38,.call 34 [.t 37,.c (.string ⟨#[110,101,119]⟩)],none⟩] [0,1])
 (.seq (.ops [
 ⟨some 39,.mv (.t 0),none⟩,
 ⟨some 40,.nilc (.t 39),none⟩,
 ⟨some 41,.faddr 0 (.t 40),none⟩,
 ⟨some 42,.load none (.t 41),none⟩,
 ⟨some 43,.call 103 [.t 42,.c (.string ⟨#[110,101,119]⟩),.c (.string ⟨#[98,97,115,101]⟩)],none⟩] [0,1])
 (.seq (.ops [
 ⟨some 44,.mv (.t 0),none⟩,
 ⟨some 45,.mv (.t 0),none⟩,
 ⟨some 46,.nilc (.t 45),none⟩,
 ⟨some 47,.faddr 2 (.t 46),none⟩,
 ⟨some 48,.load none (.t 47),none⟩,
 ⟨some 49,.call 212 [.t 44,.t 48],none⟩] [0,1])
 ir_journal_Journal_Keep_50)))
def ir_journal_Journal_Keep_14 : ACode := (.seq (.ops [
 ⟨some 14,.mv (.t 0),none⟩,
 ⟨some 15,.nilc (.t 14),none⟩,
 ⟨some 16,.faddr 2 (.t 15),none⟩,
 ⟨some 17,.load none (.t 16),none⟩,
 ⟨some 18,.bin .add (.t 17) (.c (.int .u64 1)),none⟩,
 ⟨some 19,.call 61 [.c (.slice none 0 0),.t 18,.c (.int .i64 8)],none⟩,
 ⟨some 20,.mv (.t 1),none⟩,
 ⟨some 21,.append 1 1 (.t 19) (.t 20),none⟩,
 ⟨some 5,.mv (.t 21),none⟩] [0,1,5])
 (.seq (.seq (.dops [
 ⟨4,some 26,.mv (.t 5),none,0⟩,
 ⟨5,some 27,.call 215 [.t 26],none,0⟩,
 ⟨0,some 22,.mv (.t 0),none,1⟩,
 ⟨1,some 23,.nilc (.t 22),none,1⟩,
 ⟨2,some 24,.faddr 0 (.t 23),none,1⟩,
 ⟨3,some 25,.load none (.t 24),none,1⟩,
 ⟨6,some 28,.call 28 [.t 25,.c (.string ⟨#[110,101,119]⟩),.t 27],none,0⟩,
 ⟨7,some 6,.mv (.t 28),none,0⟩] [0,1,6])
 (.seq (.ops [
 ⟨some 29,.mv (.t 6),none⟩,
 ⟨some 30,.bin .neq (.t 29) (.c (.int .i64 0)),none⟩] [0,1,6,30])
 (.cond (.t 30)
 (.seq (.ops [
 ⟨some 31,.mv (.t 0),none⟩,
 ⟨some 32,.mv (.t 6),none⟩,
 ⟨some 33,.call 216 [.t 31,.t 32],none⟩,
 ⟨some 4,.mv (.t 33),none⟩] [4])
 .ret)
 .skip)))
 ir_journal_Journal_Keep_34))
def ir_journal_Journal_Keep : AFunc := ⟨2,71,[.tmp 4],
 (.seq (.ops [
 ⟨some 4,.mv (.c (.int .i64 0)),none⟩] [0,1])
 (.seq (.block 0 (.seq (.ops [
 ⟨some 8,.mv (.t 0),none⟩,
 ⟨some 9,.call 208 [.t 8],none⟩,
 ⟨some 7,.mv (.t 9),none⟩] [0,1,7])
 (.cond (.t 7)
 (.seq (.ops [
 ⟨some 4,.mv (.c (.int .i64 7)),none⟩] [4])
 .ret)
 (.seq (.ops [
 ⟨some 11,.mv (.t 1),none⟩,
 ⟨some 12,.lenS (.t 11),none⟩,
 ⟨some 13,.bin .gtr (.t 12) (.c (.int .i64 65536)),none⟩,
 ⟨some 10,.mv (.t 13),none⟩] [0,1,10])
 (.cond (.t 10)
 (.seq (.ops [
 ⟨some 4,.mv (.c (.int .i64 2)),none⟩] [4])
 .ret)
 .skip)))))
 ir_journal_Journal_Keep_14))⟩

def h_journal_Journal_Base : Hint := [(0,[0],[]),(1,[2],[])]
def ir_journal_Journal_Base : AFunc := ⟨1,8,[.tmp 2],
 (.seq (.ops [
 ⟨some 2,.mv (.c (.slice none 0 0)),none⟩] [0])
 (.seq (.ops [
 ⟨some 3,.mv (.t 0),none⟩,
 ⟨some 4,.nilc (.t 3),none⟩,
 ⟨some 5,.faddr 5 (.t 4),none⟩,
 ⟨some 6,.load none (.t 5),none⟩,
 ⟨some 7,.call 158 [.t 6],none⟩,
 ⟨some 2,.mv (.t 7),none⟩] [2])
 .ret))⟩

def h_journal_Journal_readBase : Hint := [(0,[0],[]),(1,[0,3,4],[]),(2,[0,3,4,16],[]),(3,[2],[]),(4,[0,3,4,16,18],[]),(5,[4,20],[]),(6,[2],[]),(7,[0,5,6,7],[]),(8,[0,5,39],[]),(9,[2],[]),(10,[0,5],[]),(11,[],[]),(12,[2],[])]
def ir_journal_Journal_readBase_41 : ACode := (.seq (.ops [
 ⟨some 41,.mv (.t 0),none⟩,
 ⟨some 42,.mv (.t 5),none⟩,
 ⟨some 43,.slSl 1 (.t 42) none (some (.c (.int .i64 8))) none,none⟩,
 ⟨some 44,.call 88 [.t 43],none⟩,
 ⟨some 40,.mv (.t 44),none⟩,
 ⟨some 45,.ext (.t 40) 0,none⟩,
 ⟨some 46,.ext (.t 40) 1,none⟩,
 ⟨some 47,.nilc (.t 41),none⟩,
 ⟨some 48,.faddr 2 (.t 47),none⟩,
 ⟨none,.store 1 (.t 48) (.t 45),none⟩] [0,5])
 (.seq (.ops [
 ⟨some 49,.mv (.t 0),none⟩,
 ⟨some 50,.mv (.t 5),none⟩,
 ⟨some 51,.slSl 1 (.t 50) (some (.c (.int .i64 8))) none none,none⟩,
 ⟨some 52,.call 158 [.t 51],none⟩,
 ⟨some 53,.nilc (.t 49),none⟩,
 ⟨some 54,.faddr 5 (.t 53),none⟩,
 ⟨none,.store 1 (.t 54) (.t 52),none⟩] [])
 (.seq (.ops [
 ⟨some 2,.mv (.c (.int .i64 0)),none⟩] [2])
 .ret)))
def ir_journal_Journal_readBase_23 : ACode := (.seq (.ops [
 ⟨some 23,.mv (.t 3),none⟩,
 ⟨some 24,.call 217 [.t 23],none⟩,
 ⟨some 22,.mv (.t 24),none⟩,
 ⟨some 25,.ext (.t 22) 0,none⟩,
 ⟨some 26,.ext (.t 22) 1,none⟩,
 ⟨some 27,.ext (.t 22) 2,none⟩,
 ⟨some 5,.mv (.t 25),none⟩,
 ⟨some 6,.mv (.t 26),none⟩,
 ⟨some 7,.mv (.t 27),none⟩] [0,5,6,7])
 (.seq (.seq (.ops [
 ⟨some 28,.mv (.t 7),none⟩,
 ⟨some 29,.un .not (.t 28),none⟩,
 ⟨some 30,.mv (.t 29),none⟩,
 ⟨some 31,.mv (.t 6),(some (30,false))⟩,
 ⟨some 32,.lenS (.t 31),(some (30,false))⟩,
 ⟨some 33,.bin .gtr (.t 32) (.c (.int .i64 0)),(some (30,false))⟩,
 ⟨some 34,.pick (.t 30) (.c (.bool true)) (.t 33),none⟩,
 ⟨some 35,.mv (.t 34),none⟩,
 ⟨some 36,.mv (.t 5),(some (35,false))⟩,
 ⟨some 37,.lenS (.t 36),(some (35,false))⟩,
 ⟨some 38,.bin .lss (.t 37) (.c (.int .i64 8)),(some (35,false))⟩,
 ⟨some 39,.pick (.t 35) (.c (.bool true)) (.t 38),none⟩] [0,5,39])
 (.cond (.t 39)
 (.seq (.ops [
 ⟨some 2,.mv (.c (.int .i64 3)),none⟩] [2])
 .ret)
 .skip))
 ir_journal_Journal_readBase_41))
def ir_journal_Journal_readBase : AFunc := ⟨1,55,[.tmp 2],
 (.seq (.ops [
 ⟨some 2,.mv (.c (.int .i64 0)),none⟩] [0])
 (.seq (.ops [
 ⟨some 9,.mv (.t 0),none⟩,
 ⟨some 10,.nilc (.t 9),none⟩,
 ⟨some 11,.faddr 0 (.t 10),none⟩,
 ⟨some 12,.load none (.t 11),none⟩,
 ⟨some 13,.call 31 [.t 12,.c (.string ⟨#[98,97,115,101]⟩)],none⟩,
 ⟨some 8,.mv (.t 13),none⟩,
 ⟨some 14,.ext (.t 8) 0,none⟩,
 ⟨some 15,.ext (.t 8) 1,none⟩,
 ⟨some 3,.mv (.t 14),none⟩,
 ⟨some 4,.mv (.t 15),none⟩] [0,3,4])
 (.seq (.seq (.ops [
 ⟨some 16,.mv (.t 4),none⟩] [0,3,4,16])
 (.block 0 (.seq (.ops [
 ⟨some 19,.bin .eql (.t 16) (.c (.int .i64 0)),none⟩,
 ⟨some 18,.mv (.t 19),none⟩] [0,3,4,16,18])
 (.cond (.t 18)
 .skip
 (.seq (.ops [
 ⟨some 21,.bin .eql (.t 16) (.c (.int .i64 4)),none⟩,
 ⟨some 20,.mv (.t 21),none⟩] [4,20])
 (.cond (.t 20)
 (.seq (.ops [
 ⟨some 2,.mv (.c (.int .i64 0)),none⟩] [2])
 .ret)
 (.seq (.ops [
 ⟨some 17,.mv (.t 4),none⟩,
 ⟨some 2,.mv (.t 17),none⟩] [2])
 .ret)))))))
 ir_journal_Journal_readBase_23)))⟩

def h_journal_Journal_tidy : Hint := [(0,[0,1,4],[]),(1,[0,1,4,13],[(4,0),(5,0),(6,0),(0,1),(1,1),(2,1),(3,1),(7,0),(8,0)]),(2,[0,1,4],[])]
def ir_journal_Journal_tidy : AFunc := ⟨2,16,[],
 (.seq (.ops [
 ⟨some 4,.mv (.c (.int .i64 0)),none⟩] [0,1,4])
 (.block 0 (.loop (.seq (.seq (.dops [
 ⟨4,some 9,.mv (.t 1),none,0⟩,
 ⟨5,some 10,.mv (.t 4),none,0⟩,
 ⟨6,some 11,.call 214 [.t 9,.t 10],none,0⟩,
 ⟨0,some 5,.mv (.t 0),none,1⟩,
 ⟨1,some 6,.nilc (.t 5),none,1⟩,
 ⟨2,some 7,.faddr 0 (.t 6),none,1⟩,
 ⟨3,some 8,.load none (.t 7),none,1⟩,
 ⟨7,some 12,.call 104 [.t 8,.t 11],none,0⟩,
 ⟨8,some 13,.bin .eql (.t 12) (.c (.int .i64 0)),none,0⟩] [0,1,4,13])
 (.cond (.t 13)
 .skip
 (.exit 0)))
 (.seq (.block 1 .skip)
 (.ops [
 ⟨some 14,.mv (.t 4),none⟩,
 ⟨some 15,.bin .add (.t 14) (.c (.int .i64 1)),none⟩,
 ⟨some 4,.mv (.t 15),none⟩] [0,1,4]))))))⟩

def h_journal_Journal_readPart : Hint := [(0,[0,1],[]),(1,[0,1,5,6],[(4,0),(5,0),(6,0),(7,0),(8,0),(9,0),(0,1),(1,1),(2,1),(3,1),(10,0),(11,0),(12,0),(13,0),(14,0),(15,0)]),(2,[0,1,5,25],[]),(3,[4],[]),(4,[0,1,5],[(4,0),(5,0),(6,0),(7,0),(8,0),(9,0),(0,1),(1,1),(2,1),(3,1),(10,0)]),(5,[0,1,5],[]),(6,[0,1,5,46],[]),(7,[0,1,7,8,9],[]),(8,[0,1,7,8,54],[]),(9,[],[]),(10,[4],[]),(11,[0,1,8],[(5,0),(6,0),(1,1),(2,1),(3,1),(4,1),(7,0),(8,0),(0,2),(9,0),(10,0),(11,0)]),(12,[0,1,5],[]),(13,[4],[])]
def ir_journal_Journal_readPart_68 : ACode := (.seq (.dops [
 ⟨5,some 68,.mv (.t 7),none,0⟩,
 ⟨6,some 69,.call 158 [.t 68],none,0⟩,
 ⟨1,some 64,.mv (.t 0),none,1⟩,
 ⟨2,some 65,.nilc (.t 64),none,1⟩,
 ⟨3,some 66,.faddr 6 (.t 65),none,1⟩,
 ⟨4,some 67,.load none (.t 66),none,1⟩,
 ⟨7,some 70,.bslice 1 1 ([.slice none 0 0]) [(0,1,.t 69)],none,0⟩,
 ⟨8,some 71,.append 1 24 (.t 67) (.t 70),none,0⟩,
 ⟨0,some 63,.mv (.t 0),none,2⟩,
 ⟨9,some 72,.nilc (.t 63),none,0⟩,
 ⟨10,some 73,.faddr 6 (.t 72),none,0⟩,
 ⟨11,none,.store 1 (.t 73) (.t 71),none,0⟩] [0,1,8])
 (.ops [
 ⟨some 74,.mv (.t 8),none⟩,
 ⟨some 5,.mv (.t 74),none⟩] [0,1,5]))
def ir_journal_Journal_readPart_48 : ACode := (.block 1 (.seq (.ops [
 ⟨some 48,.mv (.t 5),none⟩,
 ⟨some 49,.call 217 [.t 48],none⟩,
 ⟨some 47,.mv (.t 49),none⟩,
 ⟨some 50,.ext (.t 47) 0,none⟩,
 ⟨some 51,.ext (.t 47) 1,none⟩,
 ⟨some 52,.ext (.t 47) 2,none⟩,
 ⟨some 7,.mv (.t 50),none⟩,
 ⟨some 8,.mv (.t 51),none⟩,
 ⟨some 9,.mv (.t 52),none⟩] [0,1,7,8,9])
 (.seq (.seq (.ops [
 ⟨some 53,.mv (.t 9),none⟩,
 ⟨some 54,.un .not (.t 53),none⟩] [0,1,7,8,54])
 (.cond (.t 54)
 (.seq (.ops [
 ⟨some 55,.mv (.t 0),none⟩,
 ⟨some 56,.mv (.t 0),none⟩,
 ⟨some 57,.mv (.t 1),none⟩,
 ⟨some 58,.bin .add (.t 57) (.c (.int .i64 1)),none⟩,
 ⟨some 59,.nilc (.t 55),none⟩,
 ⟨some 60,.faddr 3 (.t 59),none⟩,
 ⟨none,.store 1 (.t 60) (.t 58),none⟩,
 ⟨some 61,.nilc (.t 56),none⟩,
 ⟨some 62,.faddr 4 (.t 61),none⟩,
 ⟨none,.store 1 (.t 62) (.c (.bool false)),none⟩] [])
 (.seq (.ops [
 ⟨some 4,.mv (.c (.bool true)),none⟩] [4])
 .ret))
 .skip))
 ir_journal_Journal_readPart_68)))
def ir_journal_Journal_readPart_30 : ACode := (.seq (.dops [
 ⟨4,some 30,.mv (.t 0),none,0⟩,
 ⟨5,some 31,.nilc (.t 30),none,0⟩,
 ⟨6,some 32,.faddr 2 (.t 31),none,0⟩,
 ⟨7,some 33,.load none (.t 32),none,0⟩,
 ⟨8,some 34,.mv (.t 1),none,0⟩,
 ⟨9,some 35,.call 214 [.t 33,.t 34],none,0⟩,
 ⟨0,some 26,.mv (.t 0),none,1⟩,
 ⟨1,some 27,.nilc (.t 26),none,1⟩,
 ⟨2,some 28,.faddr 0 (.t 27),none,1⟩,
 ⟨3,some 29,.load none (.t 28),none,1⟩,
 ⟨10,some 36,.call 34 [.t 29,.t 35],none,0⟩] [0,1,5])
 (.seq (.ops [
 ⟨some 37,.mv (.t 0),none⟩,
 ⟨some 38,.mv (.t 0),none⟩,
 ⟨some 39,.mv (.t 1),none⟩,
 ⟨some 40,.nilc (.t 37),none⟩,
 ⟨some 41,.faddr 3 (.t 40),none⟩,
 ⟨none,.store 1 (.t 41) (.t 39),none⟩,
 ⟨some 42,.nilc (.t 38),none⟩,
 ⟨some 43,.faddr 4 (.t 42),none⟩,
 ⟨none,.store 1 (.t 43) (.c (.bool true)),none⟩] [0,1,5])
 (.seq (.block 0 (.loop (.seq (.seq (.ops [
 ⟨some 44,.mv (.t 5),none⟩,
 ⟨some 45,.lenS (.t 44),none⟩,
 ⟨some 46,.bin .gtr (.t 45) (.c (.int .i64 0)),none⟩] [0,1,5,46])
 (.cond (.t 46)
 .skip
 (.exit 0)))
 ir_journal_Journal_readPart_48)))
 (.seq (.ops [
 ⟨some 4,.mv (.c (.bool true)),none⟩] [4])
 .ret))))
def ir_journal_Journal_readPart : AFunc := ⟨2,75,[.tmp 4],
 (.seq (.ops [
 ⟨some 4,.mv (.c (.bool false)),none⟩] [0,1])
 (.seq (.dops [
 ⟨4,some 15,.mv (.t 0),none,0⟩,
 ⟨5,some 16,.nilc (.t 15),none,0⟩,
 ⟨6,some 17,.faddr 2 (.t 16),none,0⟩,
 ⟨7,some 18,.load none (.t 17),none,0⟩,
 ⟨8,some 19,.mv (.t 1),none,0⟩,
 ⟨9,some 20,.call 214 [.t 18,.t 19],none,0⟩,
 ⟨0,some 11,.mv (.t 0),none,1⟩,
 ⟨1,some 12,.nilc (.t 11),none,1⟩,
 ⟨2,some 13,.faddr 0 (.t 12),none,1⟩,
 ⟨3,some 14,.load none (.t 13),none,1⟩,
 ⟨10,some 21,.call 31 [.t 14,.t 20],none,0⟩,
 ⟨11,some 10,.mv (.t 21),none,0⟩,
 ⟨12,some 22,.ext (.t 10) 0,none,0⟩,
 ⟨13,some 23,.ext (.t 10) 1,none,0⟩,
 ⟨14,some 5,.mv (.t 22),none,0⟩,
 ⟨15,some 6,.mv (.t 23),none,0⟩] [0,1,5,6])
 (.seq (.seq (.ops [
 ⟨some 24,.mv (.t 6),none⟩,
 ⟨some 25,.bin .neq (.t 24) (.c (.int .i64 0)),none⟩] [0,1,5,25])
 (.cond (.t 25)
 (.seq (.ops [
 ⟨some 4,.mv (.c (.bool false)),none⟩] [4])
 .ret)
 .skip))
 ir_journal_Journal_readPart_30)))⟩

def h_journal_name : Hint := [(0,[0,1],[]),(1,[4],[])]
def ir_journal_name : AFunc := ⟨2,12,[.tmp 4],
 (.seq (.ops [
 ⟨some 4,.mv (.c (.string .empty)),none⟩] [0,1])
 (.seq (.ops [
 ⟨some 5,.mv (.t 0),none⟩,
 ⟨some 6,.call 218 [.t 5,.c (.int .i64 36)],none⟩,
 ⟨some 7,.bin .add (.c (.string ⟨#[114]⟩)) (.t 6),none⟩,
 ⟨some 8,.bin .add (.t 7) (.c (.string ⟨#[46]⟩)),none⟩,
 ⟨some 9,.mv (.t 1),none⟩,
 ⟨some 10,.call 219 [.t 9,.c (.int .i64 36)],none⟩,
 ⟨some 11,.bin .add (.t 8) (.t 10),none⟩,
 ⟨some 4,.mv (.t 11),none⟩] [4])
 .ret))⟩

def h_journal_frame : Hint := [(0,[0],[]),(1,[0,3],[]),(2,[0,3,4],[]),(3,[2],[])]
def ir_journal_frame : AFunc := ⟨1,18,[.tmp 2],
 (.seq (.ops [
 ⟨some 2,.mv (.c (.slice none 0 0)),none⟩] [0])
 (.seq (.ops [
 ⟨some 5,.mv (.t 0),none⟩,
 ⟨some 6,.lenS (.t 5),none⟩,
 ⟨some 7,.conv .u64 (.t 6),none⟩,
 ⟨some 8,.call 61 [.c (.slice none 0 0),.t 7,.c (.int .i64 4)],none⟩,
 ⟨some 3,.mv (.t 8),none⟩] [0,3])
 (.seq (.ops [
 ⟨some 9,.mv (.t 3),none⟩,
 ⟨some 10,.mv (.t 0),none⟩,
 ⟨some 11,.bslice 2 1 ([.slice none 0 0]) [(0,1,.t 9),(1,1,.t 10)],none⟩,
 ⟨some 12,.call 62 [.t 11],none⟩,
 ⟨some 4,.alloc (List.replicate 32 (.int .u8 0)),none⟩,
 ⟨none,.store 32 (.t 4) (.t 12),none⟩] [0,3,4])
 (.seq (.ops [
 ⟨some 13,.mv (.t 3),none⟩,
 ⟨some 14,.slArr 32 1 (.t 4) none (some (.c (.int .i64 16))) none,none⟩,
 ⟨some 15,.append 1 1 (.t 13) (.t 14),none⟩,
 ⟨some 16,.mv (.t 0),none⟩,
 ⟨some 17,.append 1 1 (.t 15) (.t 16),none⟩,
 ⟨some 2,.mv (.t 17),none⟩] [2])
 .ret))))⟩

def h_journal_Journal_failed : Hint := [(0,[0,1],[]),(1,[1],[]),(2,[4],[])]
def ir_journal_Journal_failed : AFunc := ⟨2,9,[.tmp 4],
 (.seq (.ops [
 ⟨some 4,.mv (.c (.int .i64 0)),none⟩] [0,1])
 (.seq (.ops [
 ⟨some 5,.mv (.t 0),none⟩,
 ⟨some 6,.nilc (.t 5),none⟩,
 ⟨some 7,.faddr 7 (.t 6),none⟩,
 ⟨none,.store 1 (.t 7) (.c (.bool true)),none⟩] [1])
 (.seq (.ops [
 ⟨some 8,.mv (.t 1),none⟩,
 ⟨some 4,.mv (.t 8),none⟩] [4])
 .ret)))⟩

def h_journal_next : Hint := [(0,[0],[]),(1,[0,12],[]),(2,[2,3,4],[]),(3,[0,5],[]),(4,[0,5,24],[]),(5,[2,3,4],[]),(6,[0,7,8],[(0,0),(1,0),(2,0),(3,0),(4,0),(5,0),(6,0),(7,0),(8,0),(9,0),(10,0),(11,0)]),(7,[0,7,8,9],[]),(8,[7,8,44],[(0,0),(1,0),(2,0),(3,0),(4,0)]),(9,[2,3,4],[]),(10,[2,3,4],[])]
def ir_journal_next_35 : ACode := (.seq (.seq (.ops [
 ⟨some 35,.mv (.t 0),none⟩,
 ⟨some 36,.slSl 1 (.t 35) none (some (.c (.int .i64 4))) none,none⟩,
 ⟨some 37,.mv (.t 7),none⟩,
 ⟨some 38,.bslice 2 1 ([.slice none 0 0]) [(0,1,.t 36),(1,1,.t 37)],none⟩,
 ⟨some 39,.call 62 [.t 38],none⟩,
 ⟨some 9,.alloc (List.replicate 32 (.int .u8 0)),none⟩,
 ⟨none,.store 32 (.t 9) (.t 39),none⟩] [0,7,8,9])
 (.seq (.dops [
 ⟨0,some 40,.slArr 32 1 (.t 9) none (some (.c (.int .i64 16))) none,none,0⟩,
 ⟨1,some 41,.mv (.t 0),none,0⟩,
 ⟨2,some 42,.slSl 1 (.t 41) (some (.c (.int .i64 4))) (some (.c (.int .i64 20))) none,none,0⟩,
 ⟨3,some 43,.call 220 [.t 40,.t 42],none,0⟩,
 ⟨4,some 44,.un .not (.t 43),none,0⟩] [7,8,44])
 (.cond (.t 44)
 (.seq (.ops [
 ⟨some 2,.mv (.c (.slice none 0 0)),none⟩,
 ⟨some 3,.mv (.c (.slice none 0 0)),none⟩,
 ⟨some 4,.mv (.c (.bool false)),none⟩] [2,3,4])
 .ret)
 .skip)))
 (.seq (.ops [
 ⟨some 45,.mv (.t 7),none⟩,
 ⟨some 46,.mv (.t 8),none⟩,
 ⟨some 2,.mv (.t 45),none⟩,
 ⟨some 3,.mv (.t 46),none⟩,
 ⟨some 4,.mv (.c (.bool true)),none⟩] [2,3,4])
 .ret))
def ir_journal_next_19 : ACode := (.seq (.seq (.ops [
 ⟨some 19,.mv (.t 5),none⟩,
 ⟨some 20,.mv (.t 0),none⟩,
 ⟨some 21,.lenS (.t 20),none⟩,
 ⟨some 22,.bin .sub (.t 21) (.c (.int .i64 20)),none⟩,
 ⟨some 23,.conv .u64 (.t 22),none⟩,
 ⟨some 24,.bin .gtr (.t 19) (.t 23),none⟩] [0,5,24])
 (.cond (.t 24)
 (.seq (.ops [
 ⟨some 2,.mv (.c (.slice none 0 0)),none⟩,
 ⟨some 3,.mv (.c (.slice none 0 0)),none⟩,
 ⟨some 4,.mv (.c (.bool false)),none⟩] [2,3,4])
 .ret)
 .skip))
 (.seq (.dops [
 ⟨0,some 25,.mv (.t 0),none,0⟩,
 ⟨1,some 26,.mv (.t 5),none,0⟩,
 ⟨2,some 27,.conv .i64 (.t 26),none,0⟩,
 ⟨3,some 28,.bin .add (.c (.int .i64 20)) (.t 27),none,0⟩,
 ⟨4,some 29,.slSl 1 (.t 25) (some (.c (.int .i64 20))) (some (.t 28)) none,none,0⟩,
 ⟨5,some 30,.mv (.t 0),none,0⟩,
 ⟨6,some 31,.mv (.t 5),none,0⟩,
 ⟨7,some 32,.conv .i64 (.t 31),none,0⟩,
 ⟨8,some 33,.bin .add (.c (.int .i64 20)) (.t 32),none,0⟩,
 ⟨9,some 34,.slSl 1 (.t 30) (some (.t 33)) none none,none,0⟩,
 ⟨10,some 7,.mv (.t 29),none,0⟩,
 ⟨11,some 8,.mv (.t 34),none,0⟩] [0,7,8])
 ir_journal_next_35))
def ir_journal_next : AFunc := ⟨1,47,[.tmp 2,.tmp 3,.tmp 4],
 (.seq (.ops [
 ⟨some 2,.mv (.c (.slice none 0 0)),none⟩,
 ⟨some 3,.mv (.c (.slice none 0 0)),none⟩,
 ⟨some 4,.mv (.c (.bool false)),none⟩] [0])
 (.seq (.seq (.ops [
 ⟨some 10,.mv (.t 0),none⟩,
 ⟨some 11,.lenS (.t 10),none⟩,
 ⟨some 12,.bin .lss (.t 11) (.c (.int .i64 20)),none⟩] [0,12])
 (.cond (.t 12)
 (.seq (.ops [
 ⟨some 2,.mv (.c (.slice none 0 0)),none⟩,
 ⟨some 3,.mv (.c (.slice none 0 0)),none⟩,
 ⟨some 4,.mv (.c (.bool false)),none⟩] [2,3,4])
 .ret)
 .skip))
 (.seq (.ops [
 ⟨some 14,.mv (.t 0),none⟩,
 ⟨some 15,.slSl 1 (.t 14) none (some (.c (.int .i64 4))) none,none⟩,
 ⟨some 16,.call 88 [.t 15],none⟩,
 ⟨some 13,.mv (.t 16),none⟩,
 ⟨some 17,.ext (.t 13) 0,none⟩,
 ⟨some 18,.ext (.t 13) 1,none⟩,
 ⟨some 5,.mv (.t 17),none⟩,
 ⟨some 6,.mv (.t 18),none⟩] [0,5])
 ir_journal_next_19)))⟩

def h_strconv_FormatUint : Hint := [(0,[0,1],[]),(1,[4],[])]
def ir_strconv_FormatUint : AFunc := ⟨2,8,[.tmp 4],
 (.seq (.ops [
 ⟨some 4,.mv (.c (.string .empty)),none⟩] [0,1])
 (.seq (.ops [
 ⟨some 5,.mv (.t 0),none⟩,
 ⟨some 6,.mv (.t 1),none⟩,
 ⟨some 7,.call 221 [.t 5,.t 6],none⟩,
 ⟨some 4,.mv (.t 7),none⟩] [4])
 .ret))⟩

def h_strconv_FormatInt : Hint := [(0,[0,1],[]),(1,[4],[])]
def ir_strconv_FormatInt : AFunc := ⟨2,8,[.tmp 4],
 (.seq (.ops [
 ⟨some 4,.mv (.c (.string .empty)),none⟩] [0,1])
 (.seq (.ops [
 ⟨some 5,.mv (.t 0),none⟩,
 ⟨some 6,.mv (.t 1),none⟩,
 ⟨some 7,.call 222 [.t 5,.t 6],none⟩,
 ⟨some 4,.mv (.t 7),none⟩] [4])
 .ret))⟩

def h_bytes_Equal : Hint := [(0,[0,1],[]),(1,[4],[])]
def ir_bytes_Equal : AFunc := ⟨2,10,[.tmp 4],
 (.seq (.ops [
 ⟨some 4,.mv (.c (.bool false)),none⟩] [0,1])
 (.seq (.ops [
 ⟨some 5,.mv (.t 0),none⟩,
 ⟨some 6,.strOf (.t 5),none⟩,
 ⟨some 7,.mv (.t 1),none⟩,
 ⟨some 8,.strOf (.t 7),none⟩,
 ⟨some 9,.bin .eql (.t 6) (.t 8),none⟩,
 ⟨some 4,.mv (.t 9),none⟩] [4])
 .ret))⟩

def h_internal_strconv_FormatUint : Hint := [(0,[0,1],[]),(1,[0,1,10],[]),(2,[0,12],[]),(3,[4],[]),(4,[0,5],[]),(5,[0,5,6],[]),(6,[5,6],[]),(7,[4],[]),(8,[8],[]),(9,[4],[])]
def ir_internal_strconv_FormatUint_26 : ACode := (.seq (.ops [
 ⟨some 26,.mv (.t 0),none⟩,
 ⟨some 27,.mv (.t 1),none⟩,
 ⟨some 28,.call 226 [.c (.slice none 0 0),.t 26,.t 27,.c (.bool false),.c (.bool false)],none⟩,
 ⟨some 25,.mv (.t 28),none⟩,
 ⟨some 29,.ext (.t 25) 0,none⟩,
 ⟨some 30,.ext (.t 25) 1,none⟩,
 ⟨some 7,.mv (.t 29),none⟩,
 ⟨some 8,.mv (.t 30),none⟩] [8])
 (.seq (.ops [
 ⟨some 31,.mv (.t 8),none⟩,
 ⟨some 4,.mv (.t 31),none⟩] [4])
 .ret))
def ir_internal_strconv_FormatUint : AFunc := ⟨2,32,[.tmp 4],
 (.seq (.ops [
 ⟨some 4,.mv (.c (.string .empty)),none⟩] [0,1])
 (.seq (.seq (.ops [
 ⟨some 9,.mv (.t 1),none⟩,
 ⟨some 10,.bin .eql (.t 9) (.c (.int .i64 10)),none⟩] [0,1,10])
 (.cond (.t 10)
 (.seq (.seq (.ops [
 ⟨some 11,.mv (.t 0),none⟩,
 ⟨some 12,.bin .lss (.t 11) (.c (.int .u64 100)),none⟩] [0,12])
 (.cond (.t 12)
 (.seq (.ops [
 ⟨some 13,.mv (.t 0),none⟩,
 ⟨some 14,.conv .i64 (.t 13),none⟩,
 ⟨some 15,.call 223 [.t 14],none⟩,
 ⟨some 4,.mv (.t 15),none⟩] [4])
 .ret)
 .skip))
 (.seq (.ops [
 ⟨some 5,.alloc (List.replicate 24 (.int .u8 0)),none⟩] [0,5])
 (.seq (.ops [
 ⟨some 16,.mv (.t 0),none⟩,
 ⟨some 17,.call 224 [.t 16],none⟩,
 ⟨some 6,.mv (.t 17),none⟩] [0,5,6])
 (.seq (.ops [
 ⟨some 18,.mv (.t 6),none⟩,
 ⟨some 19,.slArr 24 1 (.t 5) none (some (.t 18)) none,none⟩,
 ⟨some 20,.mv (.t 0),none⟩,
 ⟨some 21,.call 225 [.t 19,.t 20],none⟩] [5,6])
 (.seq (.ops [
 ⟨some 22,.mv (.t 6),none⟩,
 ⟨some 23,.slArr 24 1 (.t 5) none (some (.t 22)) none,none⟩,
 ⟨some 24,.strOf (.t 23),none⟩,
 ⟨some 4,.mv (.t 24),none⟩] [4])
 .ret)))))
 .skip))
 ir_internal_strconv_FormatUint_26))⟩

def h_internal_strconv_FormatInt : Hint := [(0,[0,1],[]),(1,[0,1,11],[]),(2,[0,17],[]),(3,[4],[]),(4,[0,5],[]),(5,[0,5,6],[]),(6,[0,5,6,23],[]),(7,[0,5,6],[]),(8,[0,5,6,7],[]),(9,[0,5,7],[]),(10,[5,7,34],[]),(11,[5,7],[]),(12,[4],[]),(13,[4],[]),(14,[9],[]),(15,[4],[])]
def ir_internal_strconv_FormatInt_26 : ACode := (.seq (.ops [
 ⟨some 26,.mv (.t 6),none⟩,
 ⟨some 27,.call 224 [.t 26],none⟩,
 ⟨some 7,.mv (.t 27),none⟩] [0,5,6,7])
 (.seq (.ops [
 ⟨some 28,.mv (.t 7),none⟩,
 ⟨some 29,.bin .add (.c (.int .i64 1)) (.t 28),none⟩,
 ⟨some 30,.slArr 24 1 (.t 5) (some (.c (.int .i64 1))) (some (.t 29)) none,none⟩,
 ⟨some 31,.mv (.t 6),none⟩,
 ⟨some 32,.call 225 [.t 30,.t 31],none⟩] [0,5,7])
 (.seq (.seq (.ops [
 ⟨some 33,.mv (.t 0),none⟩,
 ⟨some 34,.bin .lss (.t 33) (.c (.int .i64 0)),none⟩] [5,7,34])
 (.cond (.t 34)
 (.seq (.ops [
 ⟨some 35,.iaddrA 24 1 (.t 5) (.c (.int .i64 0)),none⟩,
 ⟨none,.store 1 (.t 35) (.c (.int .u8 45)),none⟩] [5,7])
 (.seq (.ops [
 ⟨some 36,.mv (.t 7),none⟩,
 ⟨some 37,.bin .add (.c (.int .i64 1)) (.t 36),none⟩,
 ⟨some 38,.slArr 24 1 (.t 5) none (some (.t 37)) none,none⟩,
 ⟨some 39,.strOf (.t 38),none⟩,
 ⟨some 4,.mv (.t 39),none⟩] [4])
 .ret))
 .skip))
 (.seq (.ops [
 ⟨some 40,.mv (.t 7),none⟩,
 ⟨some 41,.bin .add (.c (.int .i64 1)) (.t 40),none⟩,
 ⟨some 42,.slArr 24 1 (.t 5) (some (.c (.int .i64 1))) (some (.t 41)) none,none⟩,
 ⟨some 43,.strOf (.t 42),none⟩,
 ⟨some 4,.mv (.t 43),none⟩] [4])
 .ret))))
def ir_internal_strconv_FormatInt_45 : ACode := (.seq (.ops [
 ⟨some 45,.mv (.t 0),none⟩,
 ⟨some 46,.conv .u64 (.t 45),none⟩,
 ⟨some 47,.mv (.t 1),none⟩,
 ⟨some 48,.mv (.t 0),none⟩,
 ⟨some 49,.bin .lss (.t 48) (.c (.int .i64 0)),none⟩,
 ⟨some 50,.call 226 [.c (.slice none 0 0),.t 46,.t 47,.t 49,.c (.bool false)],none⟩,
 ⟨some 44,.mv (.t 50),none⟩,
 ⟨some 51,.ext (.t 44) 0,none⟩,
 ⟨some 52,.ext (.t 44) 1,none⟩,
 ⟨some 8,.mv (.t 51),none⟩,
 ⟨some 9,.mv (.t 52),none⟩] [9])
 (.seq (.ops [
 ⟨some 53,.mv (.t 9),none⟩,
 ⟨some 4,.mv (.t 53),none⟩] [4])
 .ret))
def ir_internal_strconv_FormatInt_10 : ACode := (.seq (.seq (.ops [
 ⟨some 10,.mv (.t 1),none⟩,
 ⟨some 11,.bin .eql (.t 10) (.c (.int .i64 10)),none⟩] [0,1,11])
 (.cond (.t 11)
 (.seq (.seq (.ops [
 ⟨some 12,.mv (.t 0),none⟩,
 ⟨some 13,.bin .leq (.c (.int .i64 0)) (.t 12),none⟩,
 ⟨some 14,.mv (.t 13),none⟩,
 ⟨some 15,.mv (.t 0),(some (14,true))⟩,
 ⟨some 16,.bin .lss (.t 15) (.c (.int .i64 100)),(some (14,true))⟩,
 ⟨some 17,.pick (.t 14) (.t 16) (.c (.bool false)),none⟩] [0,17])
 (.cond (.t 17)
 (.seq (.ops [
 ⟨some 18,.mv (.t 0),none⟩,
 ⟨some 19,.call 223 [.t 18],none⟩,
 ⟨some 4,.mv (.t 19),none⟩] [4])
 .ret)
 .skip))
 (.seq (.ops [
 ⟨some 5,.alloc (List.replicate 24 (.int .u8 0)),none⟩] [0,5])
 (.seq (.ops [
 ⟨some 20,.mv (.t 0),none⟩,
 ⟨some 21,.conv .u64 (.t 20),none⟩,
 ⟨some 6,.mv (.t 21),none⟩] [0,5,6])
 (.seq (.seq (.ops [
 ⟨some 22,.mv (.t 0),none⟩,
 ⟨some 23,.bin .lss (.t 22) (.c (.int .i64 0)),none⟩] [0,5,6,23])
 (.cond (.t 23)
 (.ops [
 ⟨some 24,.mv (.t 6),none⟩,
 ⟨some 25,.un .neg (.t 24),none⟩,
 ⟨some 6,.mv (.t 25),none⟩] [0,5,6])
 .skip))
 ir_internal_strconv_FormatInt_26))))
 .skip))
 ir_internal_strconv_FormatInt_45)
def ir_internal_strconv_FormatInt : AFunc := ⟨2,54,[.tmp 4],
 (.seq (.ops [
 ⟨some 4,.mv (.c (.string .empty)),none⟩] [0,1])
 ir_internal_strconv_FormatInt_10)⟩

def h_internal_strconv_small : Hint := [(0,[0],[]),(1,[0,4],[]),(2,[2],[]),(3,[2],[])]
def ir_internal_strconv_small_9 : ACode := (.seq (.ops [
 ⟨some 9,.mv (.t 0),none⟩,
 ⟨some 10,.bin .mul (.t 9) (.c (.int .i64 2)),none⟩,
 ⟨some 11,.mv (.t 0),none⟩,
 ⟨some 12,.bin .mul (.t 11) (.c (.int .i64 2)),none⟩,
 ⟨some 13,.bin .add (.t 12) (.c (.int .i64 2)),none⟩,
 ⟨some 14,.slStr (.c (.string ⟨#[48,48,48,49,48,50,48,51,48,52,48,53,48,54,48,55,48,56,48,57,49,48,49,49,49,50,49,51,49,52,49,53,49,54,49,55,49,56,49,57,50,48,50,49,50,50,50,51,50,52,50,53,50,54,50,55,50,56,50,57,51,48,51,49,51,50,51,51,51,52,51,53,51,54,51,55,51,56,51,57,52,48,52,49,52,50,52,51,52,52,52,53,52,54,52,55,52,56,52,57,53,48,53,49,53,50,53,51,53,52,53,53,53,54,53,55,53,56,53,57,54,48,54,49,54,50,54,51,54,52,54,53,54,54,54,55,54,56,54,57,55,48,55,49,55,50,55,51,55,52,55,53,55,54,55,55,55,56,55,57,56,48,56,49,56,50,56,51,56,52,56,53,56,54,56,55,56,56,56,57,57,48,57,49,57,50,57,51,57,52,57,53,57,54,57,55,57,56,57,57]⟩)) (some (.t 10)) (some (.t 13)),none⟩,
 ⟨some 2,.mv (.t 14),none⟩] [2])
 .ret)
def ir_internal_strconv_small : AFunc := ⟨1,15,[.tmp 2],
 (.seq (.ops [
 ⟨some 2,.mv (.c (.string .empty)),none⟩] [0])
 (.seq (.seq (.ops [
 ⟨some 3,.mv (.t 0),none⟩,
 ⟨some 4,.bin .lss (.t 3) (.c (.int .i64 10)),none⟩] [0,4])
 (.cond (.t 4)
 (.seq (.ops [
 ⟨some 5,.mv (.t 0),none⟩,
 ⟨some 6,.mv (.t 0),none⟩,
 ⟨some 7,.bin .add (.t 6) (.c (.int .i64 1)),none⟩,
 ⟨some 8,.slStr (.c (.string ⟨#[48,49,50,51,52,53,54,55,56,57,97,98,99,100,101,102,103,104,105,106,107,108,109,110,111,112,113,114,115,116,117,118,119,120,121,122]⟩)) (some (.t 5)) (some (.t 7)),none⟩,
 ⟨some 2,.mv (.t 8),none⟩] [2])
 .ret)
 .skip))
 ir_internal_strconv_small_9))⟩

def h_internal_strconv_numDigits : Hint := [(0,[0],[]),(1,[0,3],[]),(2,[2],[])]
def ir_internal_strconv_numDigits : AFunc := ⟨1,15,[.tmp 2],
 (.seq (.ops [
 ⟨some 2,.mv (.c (.int .i64 0)),none⟩] [0])
 (.seq (.ops [
 ⟨some 4,.mv (.t 0),none⟩,
 ⟨some 5,.call 228 [.t 4],none⟩,
 ⟨some 6,.call 227 [.t 5],none⟩,
 ⟨some 3,.mv (.t 6),none⟩] [0,3])
 (.seq (.ops [
 ⟨some 7,.mv (.t 3),none⟩,
 ⟨some 8,.mv (.t 0),none⟩,
 ⟨some 9,.mv (.t 3),none⟩,
 ⟨some 10,.bad,none⟩,
 ⟨some 11,.load none (.t 10),none⟩,
 ⟨some 12,.bin .geq (.t 8) (.t 11),none⟩,
 ⟨some 13,.call 229 [.t 12],none⟩,
 ⟨some 14,.bin .add (.t 7) (.t 13),none⟩,
 ⟨some 2,.mv (.t 14),none⟩] [2])
 .ret)))⟩

def h_internal_strconv_formatBase10 : Hint := [(0,[0,1,4],[]),(1,[0,1,4,20],[]),(2,[0,1,4,5],[]),(3,[0,1,4,5],[]),(4,[0,1,4,6,7],[]),(5,[0,1,4,6,8,9],[]),(6,[0,1,4,8,9,10,11],[]),(7,[0,1,4,8,10,11],[(0,0),(1,0),(2,0),(6,0),(7,0),(8,0),(11,0),(12,0),(3,1),(4,1),(5,1),(9,1),(10,1),(13,0),(14,0)]),(8,[0,1,4,10,11],[(0,0),(1,0),(2,0),(6,0),(7,0),(8,0),(11,0),(12,0),(3,1),(4,1),(5,1),(9,1),(10,1),(13,0),(14,0)]),(9,[0,1,4,10],[(0,0),(1,0),(2,0),(6,0),(7,0),(8,0),(11,0),(12,0),(3,1),(4,1),(5,1),(9,1),(10,1),(13,0),(14,0)]),(10,[0,1,4],[(0,0),(1,0),(2,0),(6,0),(7,0),(8,0),(11,0),(12,0),(3,1),(4,1),(5,1),(9,1),(10,1),(13,0),(14,0)]),(11,[0,1,4],[]),(12,[0,4,12],[]),(13,[0,4,12,99],[]),(14,[0,4,12,13],[]),(15,[0,4,12,13],[]),(16,[0,4,12,14,15],[]),(17,[0,4,12,14],[(0,0),(1,0),(2,0),(6,0),(7,0),(8,0),(11,0),(12,0),(3,1),(4,1),(5,1),(9,1),(10,1),(13,0),(14,0)]),(18,[0,4,12],[(0,0),(1,0),(2,0),(6,0),(7,0),(8,0),(11,0),(12,0),(3,1),(4,1),(5,1),(9,1),(10,1),(13,0),(14,0)]),(19,[0,4,12],[]),(20,[0,4,12,139],[]),(21,[0,4,12,16],[]),(22,[0,4,12,16],[]),(23,[0,4,12],[(0,0),(1,0),(2,0),(6,0),(7,0),(8,0),(11,0),(12,0),(3,1),(4,1),(5,1),(9,1),(10,1),(13,0),(14,0)]),(24,[0,4,12],[]),(25,[0,12,161],[]),(26,[],[])]
def ir_internal_strconv_formatBase10_145 : ACode := (.seq (.dops [
 ⟨0,some 145,.mv (.t 0),none,0⟩,
 ⟨1,some 146,.mv (.t 4),none,0⟩,
 ⟨2,some 147,.bin .sub (.t 146) (.c (.int .i64 1)),none,0⟩,
 ⟨6,some 151,.mv (.t 16),none,0⟩,
 ⟨7,some 152,.bin .add (.t 151) (.c (.int .u32 1)),none,0⟩,
 ⟨8,some 153,.idxS (.c (.string ⟨#[48,48,48,49,48,50,48,51,48,52,48,53,48,54,48,55,48,56,48,57,49,48,49,49,49,50,49,51,49,52,49,53,49,54,49,55,49,56,49,57,50,48,50,49,50,50,50,51,50,52,50,53,50,54,50,55,50,56,50,57,51,48,51,49,51,50,51,51,51,52,51,53,51,54,51,55,51,56,51,57,52,48,52,49,52,50,52,51,52,52,52,53,52,54,52,55,52,56,52,57,53,48,53,49,53,50,53,51,53,52,53,53,53,54,53,55,53,56,53,57,54,48,54,49,54,50,54,51,54,52,54,53,54,54,54,55,54,56,54,57,55,48,55,49,55,50,55,51,55,52,55,53,55,54,55,55,55,56,55,57,56,48,56,49,56,50,56,51,56,52,56,53,56,54,56,55,56,56,56,57,57,48,57,49,57,50,57,51,57,52,57,53,57,54,57,55,57,56,57,57]⟩)) (.t 152),none,0⟩,
 ⟨11,some 156,.iaddrS 1 (.t 145) (.t 147),none,0⟩,
 ⟨12,none,.store 1 (.t 156) (.t 153),none,0⟩,
 ⟨3,some 148,.mv (.t 0),none,1⟩,
 ⟨4,some 149,.mv (.t 4),none,1⟩,
 ⟨5,some 150,.bin .sub (.t 149) (.c (.int .i64 2)),none,1⟩,
 ⟨9,some 154,.mv (.t 16),none,1⟩,
 ⟨10,some 155,.idxS (.c (.string ⟨#[48,48,48,49,48,50,48,51,48,52,48,53,48,54,48,55,48,56,48,57,49,48,49,49,49,50,49,51,49,52,49,53,49,54,49,55,49,56,49,57,50,48,50,49,50,50,50,51,50,52,50,53,50,54,50,55,50,56,50,57,51,48,51,49,51,50,51,51,51,52,51,53,51,54,51,55,51,56,51,57,52,48,52,49,52,50,52,51,52,52,52,53,52,54,52,55,52,56,52,57,53,48,53,49,53,50,53,51,53,52,53,53,53,54,53,55,53,56,53,57,54,48,54,49,54,50,54,51,54,52,54,53,54,54,54,55,54,56,54,57,55,48,55,49,55,50,55,51,55,52,55,53,55,54,55,55,55,56,55,57,56,48,56,49,56,50,56,51,56,52,56,53,56,54,56,55,56,56,56,57,57,48,57,49,57,50,57,51,57,52,57,53,57,54,57,55,57,56,57,57]⟩)) (.t 154),none,1⟩,
 ⟨13,some 157,.iaddrS 1 (.t 148) (.t 150),none,0⟩,
 ⟨14,none,.store 1 (.t 157) (.t 155),none,0⟩] [0,4,12])
 (.ops [
 ⟨some 158,.mv (.t 4),none⟩,
 ⟨some 159,.bin .sub (.t 158) (.c (.int .i64 2)),none⟩,
 ⟨some 4,.mv (.t 159),none⟩] [0,4,12]))
def ir_internal_strconv_formatBase10_123 : ACode := (.seq (.dops [
 ⟨0,some 123,.mv (.t 0),none,0⟩,
 ⟨1,some 124,.mv (.t 4),none,0⟩,
 ⟨2,some 125,.bin .sub (.t 124) (.c (.int .i64 3)),none,0⟩,
 ⟨6,some 129,.mv (.t 14),none,0⟩,
 ⟨7,some 130,.bin .add (.t 129) (.c (.int .u32 1)),none,0⟩,
 ⟨8,some 131,.idxS (.c (.string ⟨#[48,48,48,49,48,50,48,51,48,52,48,53,48,54,48,55,48,56,48,57,49,48,49,49,49,50,49,51,49,52,49,53,49,54,49,55,49,56,49,57,50,48,50,49,50,50,50,51,50,52,50,53,50,54,50,55,50,56,50,57,51,48,51,49,51,50,51,51,51,52,51,53,51,54,51,55,51,56,51,57,52,48,52,49,52,50,52,51,52,52,52,53,52,54,52,55,52,56,52,57,53,48,53,49,53,50,53,51,53,52,53,53,53,54,53,55,53,56,53,57,54,48,54,49,54,50,54,51,54,52,54,53,54,54,54,55,54,56,54,57,55,48,55,49,55,50,55,51,55,52,55,53,55,54,55,55,55,56,55,57,56,48,56,49,56,50,56,51,56,52,56,53,56,54,56,55,56,56,56,57,57,48,57,49,57,50,57,51,57,52,57,53,57,54,57,55,57,56,57,57]⟩)) (.t 130),none,0⟩,
 ⟨11,some 134,.iaddrS 1 (.t 123) (.t 125),none,0⟩,
 ⟨12,none,.store 1 (.t 134) (.t 131),none,0⟩,
 ⟨3,some 126,.mv (.t 0),none,1⟩,
 ⟨4,some 127,.mv (.t 4),none,1⟩,
 ⟨5,some 128,.bin .sub (.t 127) (.c (.int .i64 4)),none,1⟩,
 ⟨9,some 132,.mv (.t 14),none,1⟩,
 ⟨10,some 133,.idxS (.c (.string ⟨#[48,48,48,49,48,50,48,51,48,52,48,53,48,54,48,55,48,56,48,57,49,48,49,49,49,50,49,51,49,52,49,53,49,54,49,55,49,56,49,57,50,48,50,49,50,50,50,51,50,52,50,53,50,54,50,55,50,56,50,57,51,48,51,49,51,50,51,51,51,52,51,53,51,54,51,55,51,56,51,57,52,48,52,49,52,50,52,51,52,52,52,53,52,54,52,55,52,56,52,57,53,48,53,49,53,50,53,51,53,52,53,53,53,54,53,55,53,56,53,57,54,48,54,49,54,50,54,51,54,52,54,53,54,54,54,55,54,56,54,57,55,48,55,49,55,50,55,51,55,52,55,53,55,54,55,55,55,56,55,57,56,48,56,49,56,50,56,51,56,52,56,53,56,54,56,55,56,56,56,57,57,48,57,49,57,50,57,51,57,52,57,53,57,54,57,55,57,56,57,57]⟩)) (.t 132),none,1⟩,
 ⟨13,some 135,.iaddrS 1 (.t 126) (.t 128),none,0⟩,
 ⟨14,none,.store 1 (.t 135) (.t 133),none,0⟩] [0,4,12])
 (.ops [
 ⟨some 136,.mv (.t 4),none⟩,
 ⟨some 137,.bin .sub (.t 136) (.c (.int .i64 4)),none⟩,
 ⟨some 4,.mv (.t 137),none⟩] [0,4,12]))
def ir_internal_strconv_formatBase10_110 : ACode := (.seq (.dops [
 ⟨0,some 110,.mv (.t 0),none,0⟩,
 ⟨1,some 111,.mv (.t 4),none,0⟩,
 ⟨2,some 112,.bin .sub (.t 111) (.c (.int .i64 1)),none,0⟩,
 ⟨6,some 116,.mv (.t 15),none,0⟩,
 ⟨7,some 117,.bin .add (.t 116) (.c (.int .u32 1)),none,0⟩,
 ⟨8,some 118,.idxS (.c (.string ⟨#[48,48,48,49,48,50,48,51,48,52,48,53,48,54,48,55,48,56,48,57,49,48,49,49,49,50,49,51,49,52,49,53,49,54,49,55,49,56,49,57,50,48,50,49,50,50,50,51,50,52,50,53,50,54,50,55,50,56,50,57,51,48,51,49,51,50,51,51,51,52,51,53,51,54,51,55,51,56,51,57,52,48,52,49,52,50,52,51,52,52,52,53,52,54,52,55,52,56,52,57,53,48,53,49,53,50,53,51,53,52,53,53,53,54,53,55,53,56,53,57,54,48,54,49,54,50,54,51,54,52,54,53,54,54,54,55,54,56,54,57,55,48,55,49,55,50,55,51,55,52,55,53,55,54,55,55,55,56,55,57,56,48,56,49,56,50,56,51,56,52,56,53,56,54,56,55,56,56,56,57,57,48,57,49,57,50,57,51,57,52,57,53,57,54,57,55,57,56,57,57]⟩)) (.t 117),none,0⟩,
 ⟨11,some 121,.iaddrS 1 (.t 110) (.t 112),none,0⟩,
 ⟨12,none,.store 1 (.t 121) (.t 118),none,0⟩,
 ⟨3,some 113,.mv (.t 0),none,1⟩,
 ⟨4,some 114,.mv (.t 4),none,1⟩,
 ⟨5,some 115,.bin .sub (.t 114) (.c (.int .i64 2)),none,1⟩,
 ⟨9,some 119,.mv (.t 15),none,1⟩,
 ⟨10,some 120,.idxS (.c (.string ⟨#[48,48,48,49,48,50,48,51,48,52,48,53,48,54,48,55,48,56,48,57,49,48,49,49,49,50,49,51,49,52,49,53,49,54,49,55,49,56,49,57,50,48,50,49,50,50,50,51,50,52,50,53,50,54,50,55,50,56,50,57,51,48,51,49,51,50,51,51,51,52,51,53,51,54,51,55,51,56,51,57,52,48,52,49,52,50,52,51,52,52,52,53,52,54,52,55,52,56,52,57,53,48,53,49,53,50,53,51,53,52,53,53,53,54,53,55,53,56,53,57,54,48,54,49,54,50,54,51,54,52,54,53,54,54,54,55,54,56,54,57,55,48,55,49,55,50,55,51,55,52,55,53,55,54,55,55,55,56,55,57,56,48,56,49,56,50,56,51,56,52,56,53,56,54,56,55,56,56,56,57,57,48,57,49,57,50,57,51,57,52,57,53,57,54,57,55,57,56,57,57]⟩)) (.t 119),none,1⟩,
 ⟨13,some 122,.iaddrS 1 (.t 113) (.t 115),none,0⟩,
 ⟨14,none,.store 1 (.t 122) (.t 120),none,0⟩] [0,4,12,14])
 ir_internal_strconv_formatBase10_123)
def ir_internal_strconv_formatBase10_138 : ACode := (.seq (.seq (.ops [
 ⟨some 138,.mv (.t 4),none⟩,
 ⟨some 139,.bin .geq (.t 138) (.c (.int .i64 2)),none⟩] [0,4,12,139])
 (.cond (.t 139)
 (.seq (.ops [
 ⟨some 140,.mv (.t 12),none⟩,
 ⟨some 141,.bin .rem (.t 140) (.c (.int .u32 100)),none⟩,
 ⟨some 142,.bin .mul (.t 141) (.c (.int .u32 2)),none⟩,
 ⟨some 16,.mv (.t 142),none⟩] [0,4,12,16])
 (.seq (.ops [
 ⟨some 143,.mv (.t 12),none⟩,
 ⟨some 144,.bin .quo (.t 143) (.c (.int .u32 100)),none⟩,
 ⟨some 12,.mv (.t 144),none⟩] [0,4,12,16])
 ir_internal_strconv_formatBase10_145))
 .skip))
 (.seq (.ops [
 ⟨some 160,.mv (.t 4),none⟩,
 ⟨some 161,.bin .gtr (.t 160) (.c (.int .i64 0)),none⟩] [0,12,161])
 (.cond (.t 161)
 (.ops [
 ⟨some 162,.mv (.t 0),none⟩,
 ⟨some 163,.mv (.t 12),none⟩,
 ⟨some 164,.bin .add (.c (.int .u32 48)) (.t 163),none⟩,
 ⟨some 165,.conv .u8 (.t 164),none⟩,
 ⟨some 166,.iaddrS 1 (.t 162) (.c (.int .i64 0)),none⟩,
 ⟨none,.store 1 (.t 166) (.t 165),none⟩] [])
 .skip)))
def ir_internal_strconv_formatBase10_81 : ACode := (.seq (.dops [
 ⟨0,some 81,.mv (.t 0),none,0⟩,
 ⟨1,some 82,.mv (.t 4),none,0⟩,
 ⟨2,some 83,.bin .sub (.t 82) (.c (.int .i64 7)),none,0⟩,
 ⟨6,some 87,.mv (.t 10),none,0⟩,
 ⟨7,some 88,.bin .add (.t 87) (.c (.int .u32 1)),none,0⟩,
 ⟨8,some 89,.idxS (.c (.string ⟨#[48,48,48,49,48,50,48,51,48,52,48,53,48,54,48,55,48,56,48,57,49,48,49,49,49,50,49,51,49,52,49,53,49,54,49,55,49,56,49,57,50,48,50,49,50,50,50,51,50,52,50,53,50,54,50,55,50,56,50,57,51,48,51,49,51,50,51,51,51,52,51,53,51,54,51,55,51,56,51,57,52,48,52,49,52,50,52,51,52,52,52,53,52,54,52,55,52,56,52,57,53,48,53,49,53,50,53,51,53,52,53,53,53,54,53,55,53,56,53,57,54,48,54,49,54,50,54,51,54,52,54,53,54,54,54,55,54,56,54,57,55,48,55,49,55,50,55,51,55,52,55,53,55,54,55,55,55,56,55,57,56,48,56,49,56,50,56,51,56,52,56,53,56,54,56,55,56,56,56,57,57,48,57,49,57,50,57,51,57,52,57,53,57,54,57,55,57,56,57,57]⟩)) (.t 88),none,0⟩,
 ⟨11,some 92,.iaddrS 1 (.t 81) (.t 83),none,0⟩,
 ⟨12,none,.store 1 (.t 92) (.t 89),none,0⟩,
 ⟨3,some 84,.mv (.t 0),none,1⟩,
 ⟨4,some 85,.mv (.t 4),none,1⟩,
 ⟨5,some 86,.bin .sub (.t 85) (.c (.int .i64 8)),none,1⟩,
 ⟨9,some 90,.mv (.t 10),none,1⟩,
 ⟨10,some 91,.idxS (.c (.string ⟨#[48,48,48,49,48,50,48,51,48,52,48,53,48,54,48,55,48,56,48,57,49,48,49,49,49,50,49,51,49,52,49,53,49,54,49,55,49,56,49,57,50,48,50,49,50,50,50,51,50,52,50,53,50,54,50,55,50,56,50,57,51,48,51,49,51,50,51,51,51,52,51,53,51,54,51,55,51,56,51,57,52,48,52,49,52,50,52,51,52,52,52,53,52,54,52,55,52,56,52,57,53,48,53,49,53,50,53,51,53,52,53,53,53,54,53,55,53,56,53,57,54,48,54,49,54,50,54,51,54,52,54,53,54,54,54,55,54,56,54,57,55,48,55,49,55,50,55,51,55,52,55,53,55,54,55,55,55,56,55,57,56,48,56,49,56,50,56,51,56,52,56,53,56,54,56,55,56,56,56,57,57,48,57,49,57,50,57,51,57,52,57,53,57,54,57,55,57,56,57,57]⟩)) (.t 90),none,1⟩,
 ⟨13,some 93,.iaddrS 1 (.t 84) (.t 86),none,0⟩,
 ⟨14,none,.store 1 (.t 93) (.t 91),none,0⟩] [0,1,4])
 (.ops [
 ⟨some 94,.mv (.t 4),none⟩,
 ⟨some 95,.bin .sub (.t 94) (.c (.int .i64 8)),none⟩,
 ⟨some 4,.mv (.t 95),none⟩] [0,1,4]))
def ir_internal_strconv_formatBase10_68 : ACode := (.seq (.dops [
 ⟨0,some 68,.mv (.t 0),none,0⟩,
 ⟨1,some 69,.mv (.t 4),none,0⟩,
 ⟨2,some 70,.bin .sub (.t 69) (.c (.int .i64 5)),none,0⟩,
 ⟨6,some 74,.mv (.t 11),none,0⟩,
 ⟨7,some 75,.bin .add (.t 74) (.c (.int .u32 1)),none,0⟩,
 ⟨8,some 76,.idxS (.c (.string ⟨#[48,48,48,49,48,50,48,51,48,52,48,53,48,54,48,55,48,56,48,57,49,48,49,49,49,50,49,51,49,52,49,53,49,54,49,55,49,56,49,57,50,48,50,49,50,50,50,51,50,52,50,53,50,54,50,55,50,56,50,57,51,48,51,49,51,50,51,51,51,52,51,53,51,54,51,55,51,56,51,57,52,48,52,49,52,50,52,51,52,52,52,53,52,54,52,55,52,56,52,57,53,48,53,49,53,50,53,51,53,52,53,53,53,54,53,55,53,56,53,57,54,48,54,49,54,50,54,51,54,52,54,53,54,54,54,55,54,56,54,57,55,48,55,49,55,50,55,51,55,52,55,53,55,54,55,55,55,56,55,57,56,48,56,49,56,50,56,51,56,52,56,53,56,54,56,55,56,56,56,57,57,48,57,49,57,50,57,51,57,52,57,53,57,54,57,55,57,56,57,57]⟩)) (.t 75),none,0⟩,
 ⟨11,some 79,.iaddrS 1 (.t 68) (.t 70),none,0⟩,
 ⟨12,none,.store 1 (.t 79) (.t 76),none,0⟩,
 ⟨3,some 71,.mv (.t 0),none,1⟩,
 ⟨4,some 72,.mv (.t 4),none,1⟩,
 ⟨5,some 73,.bin .sub (.t 72) (.c (.int .i64 6)),none,1⟩,
 ⟨9,some 77,.mv (.t 11),none,1⟩,
 ⟨10,some 78,.idxS (.c (.string ⟨#[48,48,48,49,48,50,48,51,48,52,48,53,48,54,48,55,48,56,48,57,49,48,49,49,49,50,49,51,49,52,49,53,49,54,49,55,49,56,49,57,50,48,50,49,50,50,50,51,50,52,50,53,50,54,50,55,50,56,50,57,51,48,51,49,51,50,51,51,51,52,51,53,51,54,51,55,51,56,51,57,52,48,52,49,52,50,52,51,52,52,52,53,52,54,52,55,52,56,52,57,53,48,53,49,53,50,53,51,53,52,53,53,53,54,53,55,53,56,53,57,54,48,54,49,54,50,54,51,54,52,54,53,54,54,54,55,54,56,54,57,55,48,55,49,55,50,55,51,55,52,55,53,55,54,55,55,55,56,55,57,56,48,56,49,56,50,56,51,56,52,56,53,56,54,56,55,56,56,56,57,57,48,57,49,57,50,57,51,57,52,57,53,57,54,57,55,57,56,57,57]⟩)) (.t 77),none,1⟩,
 ⟨13,some 80,.iaddrS 1 (.t 71) (.t 73),none,0⟩,
 ⟨14,none,.store 1 (.t 80) (.t 78),none,0⟩] [0,1,4,10])
 ir_internal_strconv_formatBase10_81)
def ir_internal_strconv_formatBase10_55 : ACode := (.seq (.dops [
 ⟨0,some 55,.mv (.t 0),none,0⟩,
 ⟨1,some 56,.mv (.t 4),none,0⟩,
 ⟨2,some 57,.bin .sub (.t 56) (.c (.int .i64 3)),none,0⟩,
 ⟨6,some 61,.mv (.t 8),none,0⟩,
 ⟨7,some 62,.bin .add (.t 61) (.c (.int .u32 1)),none,0⟩,
 ⟨8,some 63,.idxS (.c (.string ⟨#[48,48,48,49,48,50,48,51,48,52,48,53,48,54,48,55,48,56,48,57,49,48,49,49,49,50,49,51,49,52,49,53,49,54,49,55,49,56,49,57,50,48,50,49,50,50,50,51,50,52,50,53,50,54,50,55,50,56,50,57,51,48,51,49,51,50,51,51,51,52,51,53,51,54,51,55,51,56,51,57,52,48,52,49,52,50,52,51,52,52,52,53,52,54,52,55,52,56,52,57,53,48,53,49,53,50,53,51,53,52,53,53,53,54,53,55,53,56,53,57,54,48,54,49,54,50,54,51,54,52,54,53,54,54,54,55,54,56,54,57,55,48,55,49,55,50,55,51,55,52,55,53,55,54,55,55,55,56,55,57,56,48,56,49,56,50,56,51,56,52,56,53,56,54,56,55,56,56,56,57,57,48,57,49,57,50,57,51,57,52,57,53,57,54,57,55,57,56,57,57]⟩)) (.t 62),none,0⟩,
 ⟨11,some 66,.iaddrS 1 (.t 55) (.t 57),none,0⟩,
 ⟨12,none,.store 1 (.t 66) (.t 63),none,0⟩,
 ⟨3,some 58,.mv (.t 0),none,1⟩,
 ⟨4,some 59,.mv (.t 4),none,1⟩,
 ⟨5,some 60,.bin .sub (.t 59) (.c (.int .i64 4)),none,1⟩,
 ⟨9,some 64,.mv (.t 8),none,1⟩,
 ⟨10,some 65,.idxS (.c (.string ⟨#[48,48,48,49,48,50,48,51,48,52,48,53,48,54,48,55,48,56,48,57,49,48,49,49,49,50,49,51,49,52,49,53,49,54,49,55,49,56,49,57,50,48,50,49,50,50,50,51,50,52,50,53,50,54,50,55,50,56,50,57,51,48,51,49,51,50,51,51,51,52,51,53,51,54,51,55,51,56,51,57,52,48,52,49,52,50,52,51,52,52,52,53,52,54,52,55,52,56,52,57,53,48,53,49,53,50,53,51,53,52,53,53,53,54,53,55,53,56,53,57,54,48,54,49,54,50,54,51,54,52,54,53,54,54,54,55,54,56,54,57,55,48,55,49,55,50,55,51,55,52,55,53,55,54,55,55,55,56,55,57,56,48,56,49,56,50,56,51,56,52,56,53,56,54,56,55,56,56,56,57,57,48,57,49,57,50,57,51,57,52,57,53,57,54,57,55,57,56,57,57]⟩)) (.t 64),none,1⟩,
 ⟨13,some 67,.iaddrS 1 (.t 58) (.t 60),none,0⟩,
 ⟨14,none,.store 1 (.t 67) (.t 65),none,0⟩] [0,1,4,10,11])
 ir_internal_strconv_formatBase10_68)
def ir_internal_strconv_formatBase10_42 : ACode := (.seq (.dops [
 ⟨0,some 42,.mv (.t 0),none,0⟩,
 ⟨1,some 43,.mv (.t 4),none,0⟩,
 ⟨2,some 44,.bin .sub (.t 43) (.c (.int .i64 1)),none,0⟩,
 ⟨6,some 48,.mv (.t 9),none,0⟩,
 ⟨7,some 49,.bin .add (.t 48) (.c (.int .u32 1)),none,0⟩,
 ⟨8,some 50,.idxS (.c (.string ⟨#[48,48,48,49,48,50,48,51,48,52,48,53,48,54,48,55,48,56,48,57,49,48,49,49,49,50,49,51,49,52,49,53,49,54,49,55,49,56,49,57,50,48,50,49,50,50,50,51,50,52,50,53,50,54,50,55,50,56,50,57,51,48,51,49,51,50,51,51,51,52,51,53,51,54,51,55,51,56,51,57,52,48,52,49,52,50,52,51,52,52,52,53,52,54,52,55,52,56,52,57,53,48,53,49,53,50,53,51,53,52,53,53,53,54,53,55,53,56,53,57,54,48,54,49,54,50,54,51,54,52,54,53,54,54,54,55,54,56,54,57,55,48,55,49,55,50,55,51,55,52,55,53,55,54,55,55,55,56,55,57,56,48,56,49,56,50,56,51,56,52,56,53,56,54,56,55,56,56,56,57,57,48,57,49,57,50,57,51,57,52,57,53,57,54,57,55,57,56,57,57]⟩)) (.t 49),none,0⟩,
 ⟨11,some 53,.iaddrS 1 (.t 42) (.t 44),none,0⟩,
 ⟨12,none,.store 1 (.t 53) (.t 50),none,0⟩,
 ⟨3,some 45,.mv (.t 0),none,1⟩,
 ⟨4,some 46,.mv (.t 4),none,1⟩,
 ⟨5,some 47,.bin .sub (.t 46) (.c (.int .i64 2)),none,1⟩,
 ⟨9,some 51,.mv (.t 9),none,1⟩,
 ⟨10,some 52,.idxS (.c (.string ⟨#[48,48,48,49,48,50,48,51,48,52,48,53,48,54,48,55,48,56,48,57,49,48,49,49,49,50,49,51,49,52,49,53,49,54,49,55,49,56,49,57,50,48,50,49,50,50,50,51,50,52,50,53,50,54,50,55,50,56,50,57,51,48,51,49,51,50,51,51,51,52,51,53,51,54,51,55,51,56,51,57,52,48,52,49,52,50,52,51,52,52,52,53,52,54,52,55,52,56,52,57,53,48,53,49,53,50,53,51,53,52,53,53,53,54,53,55,53,56,53,57,54,48,54,49,54,50,54,51,54,52,54,53,54,54,54,55,54,56,54,57,55,48,55,49,55,50,55,51,55,52,55,53,55,54,55,55,55,56,55,57,56,48,56,49,56,50,56,51,56,52,56,53,56,54,56,55,56,56,56,57,57,48,57,49,57,50,57,51,57,52,57,53,57,54,57,55,57,56,57,57]⟩)) (.t 51),none,1⟩,
 ⟨13,some 54,.iaddrS 1 (.t 45) (.t 47),none,0⟩,
 ⟨14,none,.store 1 (.t 54) (.t 52),none,0⟩] [0,1,4,8,10,11])
 ir_internal_strconv_formatBase10_55)
def ir_internal_strconv_formatBase10_26 : ACode := (.seq (.ops [
 ⟨some 26,.mv (.t 5),none⟩,
 ⟨some 27,.bin .quo (.t 26) (.c (.int .u32 10000)),none⟩,
 ⟨some 28,.mv (.t 5),none⟩,
 ⟨some 29,.bin .rem (.t 28) (.c (.int .u32 10000)),none⟩,
 ⟨some 6,.mv (.t 27),none⟩,
 ⟨some 7,.mv (.t 29),none⟩] [0,1,4,6,7])
 (.seq (.ops [
 ⟨some 30,.mv (.t 7),none⟩,
 ⟨some 31,.bin .quo (.t 30) (.c (.int .u32 100)),none⟩,
 ⟨some 32,.bin .mul (.t 31) (.c (.int .u32 2)),none⟩,
 ⟨some 33,.mv (.t 7),none⟩,
 ⟨some 34,.bin .rem (.t 33) (.c (.int .u32 100)),none⟩,
 ⟨some 35,.bin .mul (.t 34) (.c (.int .u32 2)),none⟩,
 ⟨some 8,.mv (.t 32),none⟩,
 ⟨some 9,.mv (.t 35),none⟩] [0,1,4,6,8,9])
 (.seq (.ops [
 ⟨some 36,.mv (.t 6),none⟩,
 ⟨some 37,.bin .quo (.t 36) (.c (.int .u32 100)),none⟩,
 ⟨some 38,.bin .mul (.t 37) (.c (.int .u32 2)),none⟩,
 ⟨some 39,.mv (.t 6),none⟩,
 ⟨some 40,.bin .rem (.t 39) (.c (.int .u32 100)),none⟩,
 ⟨some 41,.bin .mul (.t 40) (.c (.int .u32 2)),none⟩,
 ⟨some 10,.mv (.t 38),none⟩,
 ⟨some 11,.mv (.t 41),none⟩] [0,1,4,8,9,10,11])
 ir_internal_strconv_formatBase10_42)))
def ir_internal_strconv_formatBase10_96 : ACode := (.seq (.ops [
 ⟨some 96,.mv (.t 1),none⟩,
 ⟨some 97,.conv .u32 (.t 96),none⟩,
 ⟨some 12,.mv (.t 97),none⟩] [0,4,12])
 (.seq (.seq (.ops [
 ⟨some 98,.mv (.t 4),none⟩,
 ⟨some 99,.bin .geq (.t 98) (.c (.int .i64 4)),none⟩] [0,4,12,99])
 (.cond (.t 99)
 (.seq (.ops [
 ⟨some 100,.mv (.t 12),none⟩,
 ⟨some 101,.bin .rem (.t 100) (.c (.int .u32 10000)),none⟩,
 ⟨some 13,.mv (.t 101),none⟩] [0,4,12,13])
 (.seq (.ops [
 ⟨some 102,.mv (.t 12),none⟩,
 ⟨some 103,.bin .quo (.t 102) (.c (.int .u32 10000)),none⟩,
 ⟨some 12,.mv (.t 103),none⟩] [0,4,12,13])
 (.seq (.ops [
 ⟨some 104,.mv (.t 13),none⟩,
 ⟨some 105,.bin .quo (.t 104) (.c (.int .u32 100)),none⟩,
 ⟨some 106,.bin .mul (.t 105) (.c (.int .u32 2)),none⟩,
 ⟨some 107,.mv (.t 13),none⟩,
 ⟨some 108,.bin .rem (.t 107) (.c (.int .u32 100)),none⟩,
 ⟨some 109,.bin .mul (.t 108) (.c (.int .u32 2)),none⟩,
 ⟨some 14,.mv (.t 106),none⟩,
 ⟨some 15,.mv (.t 109),none⟩] [0,4,12,14,15])
 ir_internal_strconv_formatBase10_110)))
 .skip))
 ir_internal_strconv_formatBase10_138))
def ir_internal_strconv_formatBase10 : AFunc := ⟨2,167,[],
 (.seq (.ops [
 ⟨some 17,.mv (.t 0),none⟩,
 ⟨some 18,.lenS (.t 17),none⟩,
 ⟨some 4,.mv (.t 18),none⟩] [0,1,4])
 (.seq (.block 0 (.loop (.seq (.seq (.ops [
 ⟨some 19,.mv (.t 4),none⟩,
 ⟨some 20,.bin .geq (.t 19) (.c (.int .i64 8)),none⟩] [0,1,4,20])
 (.cond (.t 20)
 .skip
 (.exit 0)))
 (.block 1 (.seq (.ops [
 ⟨some 21,.mv (.t 1),none⟩,
 ⟨some 22,.bin .rem (.t 21) (.c (.int .u64 100000000)),none⟩,
 ⟨some 23,.conv .u32 (.t 22),none⟩,
 ⟨some 5,.mv (.t 23),none⟩] [0,1,4,5])
 (.seq (.ops [
 ⟨some 24,.mv (.t 1),none⟩,
 ⟨some 25,.bin .quo (.t 24) (.c (.int .u64 100000000)),none⟩,
 ⟨some 1,.mv (.t 25),none⟩] [0,1,4,5])
 ir_internal_strconv_formatBase10_26))))))
 ir_internal_strconv_formatBase10_96))⟩

def h_internal_strconv_formatBits : Hint := [(0,[0,1,2,3,4,10,11],[]),(1,[0,1,2,3,4,10,11,28],[]),(2,[0,1,2,3,4,10,11],[]),(3,[0,1,2,3,4,10,11,12],[]),(4,[0,1,2,3,4,10,11,12,13],[]),(5,[0,1,2,3,4,10,11,12,13,30],[]),(6,[0,1,2,3,4,10,11,12,13],[]),(7,[0,1,2,3,4,10,11,12,13,34],[]),(8,[0,1,2,3,4,10,11,12,13,14],[]),(9,[0,1,2,3,4,10,11,12,13,14,15],[]),(10,[0,1,3,4,10,11,12,13,14,15,16],[]),(11,[0,1,3,4,10,11,12,13,14,15,16,46],[]),(12,[0,1,3,4,10,11,12,13,14,15,16],[]),(13,[0,1,3,4,10,11,12,13,14,15,16],[]),(14,[0,1,3,4,10,11,12,13,14,15,16],[]),(15,[0,1,3,4,10,11,12,13],[]),(16,[0,3,4,10,11,12,13],[]),(17,[0,1,3,4,10,11,12,13,17],[]),(18,[0,1,3,4,10,11,12,13,17,68],[]),(19,[0,1,3,4,10,11,12,13,17],[]),(20,[0,1,3,4,10,11,12,13,17,18],[]),(21,[0,3,4,10,11,12,13,17,18],[]),(22,[0,1,3,4,10,11,12,13,17],[]),(23,[0,1,3,4,10,11,12,13],[]),(24,[0,3,4,10,11,12,13],[]),(25,[0,4,10,11,12,13,89],[]),(26,[0,4,10,11,12,13],[]),(27,[0,4,10,11,12,13],[]),(28,[0,10,11,12,13,94],[]),(29,[10,11],[]),(30,[10,11],[])]
def ir_internal_strconv_formatBits : AFunc := ⟨5,102,[.tmp 10,.tmp 11],
 (.seq (.ops [
 ⟨some 10,.mv (.c (.slice none 0 0)),none⟩,
 ⟨some 11,.mv (.c (.string .empty)),none⟩] [0,1,2,3,4,10,11])
 (.seq (.seq (.ops [
 ⟨some 19,.mv (.t 2),none⟩,
 ⟨some 20,.bin .lss (.t 19) (.c (.int .i64 2)),none⟩,
 ⟨some 21,.mv (.t 20),none⟩,
 ⟨some 22,.mv (.t 2),(some (21,false))⟩,
 ⟨some 23,.bin .eql (.t 22) (.c (.int .i64 10)),(some (21,false))⟩,
 ⟨some 24,.pick (.t 21) (.c (.bool true)) (.t 23),none⟩,
 ⟨some 25,.mv (.t 24),none⟩,
 ⟨some 26,.mv (.t 2),(some (25,false))⟩,
 ⟨some 27,.bin .gtr (.t 26) (.c (.int .i64 36)),(some (25,false))⟩,
 ⟨some 28,.pick (.t 25) (.c (.bool true)) (.t 27),none⟩] [0,1,2,3,4,10,11,28])
 (.cond (.t 28)
 (.ops [
 ⟨some 29,.bad,none⟩,
 ⟨none,.bad,none⟩] [0,1,2,3,4,10,11])
 .skip))
 (.seq (.ops [
 ⟨some 12,.alloc (List.replicate 65 (.int .u8 0)),none⟩] [0,1,2,3,4,10,11,12])
 (.seq (.ops [
 ⟨some 13,.mv (.c (.int .i64 65)),none⟩] [0,1,2,3,4,10,11,12,13])
 (.seq (.seq (.ops [
 ⟨some 30,.mv (.t 3),none⟩] [0,1,2,3,4,10,11,12,13,30])
 (.cond (.t 30)
 (.ops [
 ⟨some 31,.mv (.t 1),none⟩,
 ⟨some 32,.un .neg (.t 31),none⟩,
 ⟨some 1,.mv (.t 32),none⟩] [0,1,2,3,4,10,11,12,13])
 .skip))
 (.seq (.seq (.ops [
 ⟨some 33,.mv (.t 2),none⟩,
 ⟨some 34,.call 230 [.t 33],none⟩] [0,1,2,3,4,10,11,12,13,34])
 (.cond (.t 34)
 (.seq (.ops [
 ⟨some 35,.mv (.t 2),none⟩,
 ⟨some 36,.conv .u64 (.t 35),none⟩,
 ⟨some 37,.call 231 [.t 36],none⟩,
 ⟨some 38,.conv .u64 (.t 37),none⟩,
 ⟨some 14,.mv (.t 38),none⟩] [0,1,2,3,4,10,11,12,13,14])
 (.seq (.ops [
 ⟨some 39,.mv (.t 2),none⟩,
 ⟨some 40,.conv .u64 (.t 39),none⟩,
 ⟨some 15,.mv (.t 40),none⟩] [0,1,2,3,4,10,11,12,13,14,15])
 (.seq (.ops [
 ⟨some 41,.mv (.t 2),none⟩,
 ⟨some 42,.conv .u64 (.t 41),none⟩,
 ⟨some 43,.bin .sub (.t 42) (.c (.int .u64 1)),none⟩,
 ⟨some 16,.mv (.t 43),none⟩] [0,1,3,4,10,11,12,13,14,15,16])
 (.seq (.block 0
 (.loop
 (.seq (.seq (.ops [
 ⟨some 44,.mv (.t 1),none⟩,
 ⟨some 45,.mv (.t 15),none⟩,
 ⟨some 46,.bin .geq (.t 44) (.t 45),none⟩] [0,1,3,4,10,11,12,13,14,15,16,46])
 (.cond (.t 46)
 .skip
 (.exit 0)))
 (.block 1
 (.seq (.ops [
 ⟨some 47,.mv (.t 13),none⟩,
 ⟨some 48,.bin .sub (.t 47) (.c (.int .i64 1)),none⟩,
 ⟨some 13,.mv (.t 48),none⟩] [0,1,3,4,10,11,12,13,14,15,16])
 (.seq (.ops [
 ⟨some 49,.mv (.t 13),none⟩,
 ⟨some 50,.mv (.t 1),none⟩,
 ⟨some 51,.mv (.t 16),none⟩,
 ⟨some 52,.bin .and (.t 50) (.t 51),none⟩,
 ⟨some 53,.idxS (.c (.string ⟨#[48,49,50,51,52,53,54,55,56,57,97,98,99,100,101,102,103,104,105,106,107,108,109,110,111,112,113,114,115,116,117,118,119,120,121,122]⟩)) (.t 52),none⟩,
 ⟨some 54,.iaddrA 65 1 (.t 12) (.t 49),none⟩,
 ⟨none,.store 1 (.t 54) (.t 53),none⟩] [0,1,3,4,10,11,12,13,14,15,16])
 (.ops [
 ⟨some 55,.mv (.t 1),none⟩,
 ⟨some 56,.mv (.t 14),none⟩,
 ⟨some 57,.bin .shr (.t 55) (.t 56),none⟩,
 ⟨some 1,.mv (.t 57),none⟩] [0,1,3,4,10,11,12,13,14,15,16])))))))
 (.seq (.ops [
 ⟨some 58,.mv (.t 13),none⟩,
 ⟨some 59,.bin .sub (.t 58) (.c (.int .i64 1)),none⟩,
 ⟨some 13,.mv (.t 59),none⟩] [0,1,3,4,10,11,12,13])
 (.ops [
 ⟨some 60,.mv (.t 13),none⟩,
 ⟨some 61,.mv (.t 1),none⟩,
 ⟨some 62,.idxS (.c (.string ⟨#[48,49,50,51,52,53,54,55,56,57,97,98,99,100,101,102,103,104,105,106,107,108,109,110,111,112,113,114,115,116,117,118,119,120,121,122]⟩)) (.t 61),none⟩,
 ⟨some 63,.iaddrA 65 1 (.t 12) (.t 60),none⟩,
 ⟨none,.store 1 (.t 63) (.t 62),none⟩] [0,3,4,10,11,12,13]))))))
 (.seq (.ops [
 ⟨some 64,.mv (.t 2),none⟩,
 ⟨some 65,.conv .u64 (.t 64),none⟩,
 ⟨some 17,.mv (.t 65),none⟩] [0,1,3,4,10,11,12,13,17])
 (.seq (.block 2
 (.loop
 (.seq (.seq (.ops [
 ⟨some 66,.mv (.t 1),none⟩,
 ⟨some 67,.mv (.t 17),none⟩,
 ⟨some 68,.bin .geq (.t 66) (.t 67),none⟩] [0,1,3,4,10,11,12,13,17,68])
 (.cond (.t 68)
 .skip
 (.exit 2)))
 (.block 3
 (.seq (.ops [
 ⟨some 69,.mv (.t 13),none⟩,
 ⟨some 70,.bin .sub (.t 69) (.c (.int .i64 1)),none⟩,
 ⟨some 13,.mv (.t 70),none⟩] [0,1,3,4,10,11,12,13,17])
 (.seq (.ops [
 ⟨some 71,.mv (.t 1),none⟩,
 ⟨some 72,.mv (.t 17),none⟩,
 ⟨some 73,.bin .quo (.t 71) (.t 72),none⟩,
 ⟨some 18,.mv (.t 73),none⟩] [0,1,3,4,10,11,12,13,17,18])
 (.seq (.ops [
 ⟨some 74,.mv (.t 13),none⟩,
 ⟨some 75,.mv (.t 1),none⟩,
 ⟨some 76,.mv (.t 18),none⟩,
 ⟨some 77,.mv (.t 17),none⟩,
 ⟨some 78,.bin .mul (.t 76) (.t 77),none⟩,
 ⟨some 79,.bin .sub (.t 75) (.t 78),none⟩,
 ⟨some 80,.idxS (.c (.string ⟨#[48,49,50,51,52,53,54,55,56,57,97,98,99,100,101,102,103,104,105,106,107,108,109,110,111,112,113,114,115,116,117,118,119,120,121,122]⟩)) (.t 79),none⟩,
 ⟨some 81,.iaddrA 65 1 (.t 12) (.t 74),none⟩,
 ⟨none,.store 1 (.t 81) (.t 80),none⟩] [0,3,4,10,11,12,13,17,18])
 (.ops [
 ⟨some 82,.mv (.t 18),none⟩,
 ⟨some 1,.mv (.t 82),none⟩] [0,1,3,4,10,11,12,13,17]))))))))
 (.seq (.ops [
 ⟨some 83,.mv (.t 13),none⟩,
 ⟨some 84,.bin .sub (.t 83) (.c (.int .i64 1)),none⟩,
 ⟨some 13,.mv (.t 84),none⟩] [0,1,3,4,10,11,12,13])
 (.ops [
 ⟨some 85,.mv (.t 13),none⟩,
 ⟨some 86,.mv (.t 1),none⟩,
 ⟨some 87,.idxS (.c (.string ⟨#[48,49,50,51,52,53,54,55,56,57,97,98,99,100,101,102,103,104,105,106,107,108,109,110,111,112,113,114,115,116,117,118,119,120,121,122]⟩)) (.t 86),none⟩,
 ⟨some 88,.iaddrA 65 1 (.t 12) (.t 85),none⟩,
 ⟨none,.store 1 (.t 88) (.t 87),none⟩] [0,3,4,10,11,12,13]))))))
 (.seq (.seq (.ops [
 ⟨some 89,.mv (.t 3),none⟩] [0,4,10,11,12,13,89])
 (.cond (.t 89)
 (.seq (.ops [
 ⟨some 90,.mv (.t 13),none⟩,
 ⟨some 91,.bin .sub (.t 90) (.c (.int .i64 1)),none⟩,
 ⟨some 13,.mv (.t 91),none⟩] [0,4,10,11,12,13])
 (.ops [
 ⟨some 92,.mv (.t 13),none⟩,
 ⟨some 93,.iaddrA 65 1 (.t 12) (.t 92),none⟩,
 ⟨none,.store 1 (.t 93) (.c (.int .u8 45)),none⟩] [0,4,10,11,12,13]))
 .skip))
 (.seq (.seq (.ops [
 ⟨some 94,.mv (.t 4),none⟩] [0,10,11,12,13,94])
 (.cond (.t 94)
 (.seq (.ops [
 ⟨some 95,.mv (.t 0),none⟩,
 ⟨some 96,.mv (.t 13),none⟩,
 ⟨some 97,.slArr 65 1 (.t 12) (some (.t 96)) none none,none⟩,
 ⟨some 98,.append 1 1 (.t 95) (.t 97),none⟩,
 ⟨some 10,.mv (.t 98),none⟩] [10,11])
 .ret)
 .skip))
 (.seq (.ops [
 ⟨some 99,.mv (.t 13),none⟩,
 ⟨some 100,.slArr 65 1 (.t 12) (some (.t 99)) none none,none⟩,
 ⟨some 101,.strOf (.t 100),none⟩,
 ⟨some 11,.mv (.t 101),none⟩] [10,11])
 .ret)))))))))⟩

def h_internal_strconv_log10Pow2 : Hint := [(0,[0],[]),(1,[2],[])]
def ir_internal_strconv_log10Pow2 : AFunc := ⟨1,6,[.tmp 2],
 (.seq (.ops [
 ⟨some 2,.mv (.c (.int .i64 0)),none⟩] [0])
 (.seq (.ops [
 ⟨some 3,.mv (.t 0),none⟩,
 ⟨some 4,.bin .mul (.t 3) (.c (.int .i64 78913)),none⟩,
 ⟨some 5,.bin .shr (.t 4) (.c (.int .u64 18)),none⟩,
 ⟨some 2,.mv (.t 5),none⟩] [2])
 .ret))⟩

def h_math_bits_Len64 : Hint := [(0,[0,2],[]),(1,[0,2,4],[]),(2,[0],[]),(3,[0,2],[]),(4,[0,2,8],[]),(5,[0,2],[]),(6,[0,2],[]),(7,[0,2,14],[]),(8,[0,2],[]),(9,[0,2],[]),(10,[2],[])]
def ir_math_bits_Len64_19 : ACode := (.seq (.ops [
 ⟨some 19,.mv (.t 2),none⟩,
 ⟨some 20,.mv (.t 0),none⟩,
 ⟨some 21,.conv .u8 (.t 20),none⟩,
 ⟨some 22,.idxS (.c (.string ⟨#[0,1,2,2,3,3,3,3,4,4,4,4,4,4,4,4,5,5,5,5,5,5,5,5,5,5,5,5,5,5,5,5,6,6,6,6,6,6,6,6,6,6,6,6,6,6,6,6,6,6,6,6,6,6,6,6,6,6,6,6,6,6,6,6,7,7,7,7,7,7,7,7,7,7,7,7,7,7,7,7,7,7,7,7,7,7,7,7,7,7,7,7,7,7,7,7,7,7,7,7,7,7,7,7,7,7,7,7,7,7,7,7,7,7,7,7,7,7,7,7,7,7,7,7,7,7,7,7,8,8,8,8,8,8,8,8,8,8,8,8,8,8,8,8,8,8,8,8,8,8,8,8,8,8,8,8,8,8,8,8,8,8,8,8,8,8,8,8,8,8,8,8,8,8,8,8,8,8,8,8,8,8,8,8,8,8,8,8,8,8,8,8,8,8,8,8,8,8,8,8,8,8,8,8,8,8,8,8,8,8,8,8,8,8,8,8,8,8,8,8,8,8,8,8,8,8,8,8,8,8,8,8,8,8,8,8,8,8,8,8,8,8,8,8,8,8,8,8,8,8,8,8,8,8,8,8]⟩)) (.t 21),none⟩,
 ⟨some 23,.conv .i64 (.t 22),none⟩,
 ⟨some 24,.bin .add (.t 19) (.t 23),none⟩,
 ⟨some 2,.mv (.t 24),none⟩] [2])
 .ret)
def ir_math_bits_Len64_3 : ACode := (.seq (.seq (.ops [
 ⟨some 3,.mv (.t 0),none⟩,
 ⟨some 4,.bin .geq (.t 3) (.c (.int .u64 4294967296)),none⟩] [0,2,4])
 (.cond (.t 4)
 (.seq (.ops [
 ⟨some 5,.mv (.t 0),none⟩,
 ⟨some 6,.bin .shr (.t 5) (.c (.int .u64 32)),none⟩,
 ⟨some 0,.mv (.t 6),none⟩] [0])
 (.ops [
 ⟨some 2,.mv (.c (.int .i64 32)),none⟩] [0,2]))
 .skip))
 (.seq (.seq (.ops [
 ⟨some 7,.mv (.t 0),none⟩,
 ⟨some 8,.bin .geq (.t 7) (.c (.int .u64 65536)),none⟩] [0,2,8])
 (.cond (.t 8)
 (.seq (.ops [
 ⟨some 9,.mv (.t 0),none⟩,
 ⟨some 10,.bin .shr (.t 9) (.c (.int .u64 16)),none⟩,
 ⟨some 0,.mv (.t 10),none⟩] [0,2])
 (.ops [
 ⟨some 11,.mv (.t 2),none⟩,
 ⟨some 12,.bin .add (.t 11) (.c (.int .i64 16)),none⟩,
 ⟨some 2,.mv (.t 12),none⟩] [0,2]))
 .skip))
 (.seq (.seq (.ops [
 ⟨some 13,.mv (.t 0),none⟩,
 ⟨some 14,.bin .geq (.t 13) (.c (.int .u64 256)),none⟩] [0,2,14])
 (.cond (.t 14)
 (.seq (.ops [
 ⟨some 15,.mv (.t 0),none⟩,
 ⟨some 16,.bin .shr (.t 15) (.c (.int .u64 8)),none⟩,
 ⟨some 0,.mv (.t 16),none⟩] [0,2])
 (.ops [
 ⟨some 17,.mv (.t 2),none⟩,
 ⟨some 18,.bin .add (.t 17) (.c (.int .i64 8)),none⟩,
 ⟨some 2,.mv (.t 18),none⟩] [0,2]))
 .skip))
 ir_math_bits_Len64_19)))
def ir_math_bits_Len64 : AFunc := ⟨1,25,[.tmp 2],
 (.seq (.ops [
 ⟨some 2,.mv (.c (.int .i64 0)),none⟩] [0,2])
 ir_math_bits_Len64_3)⟩

def h_internal_strconv_bool2_int : Hint := [(0,[0],[]),(1,[3],[]),(2,[2],[]),(3,[2],[])]
def ir_internal_strconv_bool2_int : AFunc := ⟨1,4,[.tmp 2],
 (.seq (.ops [
 ⟨some 2,.mv (.c (.int .i64 0)),none⟩] [0])
 (.seq (.seq (.ops [
 ⟨some 3,.mv (.t 0),none⟩] [3])
 (.cond (.t 3)
 (.seq (.ops [
 ⟨some 2,.mv (.c (.int .i64 1)),none⟩] [2])
 .ret)
 .skip))
 (.seq (.ops [
 ⟨some 2,.mv (.c (.int .i64 0)),none⟩] [2])
 .ret)))⟩

def h_internal_strconv_isPowerOfTwo : Hint := [(0,[0],[]),(1,[2],[])]
def ir_internal_strconv_isPowerOfTwo : AFunc := ⟨1,8,[.tmp 2],
 (.seq (.ops [
 ⟨some 2,.mv (.c (.bool false)),none⟩] [0])
 (.seq (.ops [
 ⟨some 3,.mv (.t 0),none⟩,
 ⟨some 4,.mv (.t 0),none⟩,
 ⟨some 5,.bin .sub (.t 4) (.c (.int .i64 1)),none⟩,
 ⟨some 6,.bin .and (.t 3) (.t 5),none⟩,
 ⟨some 7,.bin .eql (.t 6) (.c (.int .i64 0)),none⟩,
 ⟨some 2,.mv (.t 7),none⟩] [2])
 .ret))⟩

def h_math_bits_TrailingZeros : Hint := [(0,[0],[]),(1,[2],[]),(2,[2],[])]
def ir_math_bits_TrailingZeros : AFunc := ⟨1,8,[.tmp 2],
 (.seq (.ops [
 ⟨some 2,.mv (.c (.int .i64 0)),none⟩] [0])
 (.seq (.cond (.c (.bool false))
 (.seq (.ops [
 ⟨some 3,.mv (.t 0),none⟩,
 ⟨some 4,.conv .u32 (.t 3),none⟩,
 ⟨some 5,.call 232 [.t 4],none⟩,
 ⟨some 2,.mv (.t 5),none⟩] [2])
 .ret)
 .skip)
 (.seq (.ops [
 ⟨some 6,.mv (.t 0),none⟩,
 ⟨some 7,.call 233 [.t 6],none⟩,
 ⟨some 2,.mv (.t 7),none⟩] [2])
 .ret)))⟩

def h_math_bits_TrailingZeros32 : Hint := [(0,[0],[]),(1,[0,4],[]),(2,[2],[]),(3,[2],[])]
def ir_math_bits_TrailingZeros32 : AFunc := ⟨1,14,[.tmp 2],
 (.seq (.ops [
 ⟨some 2,.mv (.c (.int .i64 0)),none⟩] [0])
 (.seq (.seq (.ops [
 ⟨some 3,.mv (.t 0),none⟩,
 ⟨some 4,.bin .eql (.t 3) (.c (.int .u32 0)),none⟩] [0,4])
 (.cond (.t 4)
 (.seq (.ops [
 ⟨some 2,.mv (.c (.int .i64 32)),none⟩] [2])
 .ret)
 .skip))
 (.seq (.ops [
 ⟨some 5,.mv (.t 0),none⟩,
 ⟨some 6,.mv (.t 0),none⟩,
 ⟨some 7,.un .neg (.t 6),none⟩,
 ⟨some 8,.bin .and (.t 5) (.t 7),none⟩,
 ⟨some 9,.bin .mul (.t 8) (.c (.int .u32 125613361)),none⟩,
 ⟨some 10,.bin .shr (.t 9) (.c (.int .u64 27)),none⟩,
 ⟨some 11,.bad,none⟩,
 ⟨some 12,.load none (.t 11),none⟩,
 ⟨some 13,.conv .i64 (.t 12),none⟩,
 ⟨some 2,.mv (.t 13),none⟩] [2])
 .ret)))⟩

def h_math_bits_TrailingZeros64 : Hint := [(0,[0],[]),(1,[0,4],[]),(2,[2],[]),(3,[2],[])]
def ir_math_bits_TrailingZeros64 : AFunc := ⟨1,14,[.tmp 2],
 (.seq (.ops [
 ⟨some 2,.mv (.c (.int .i64 0)),none⟩] [0])
 (.seq (.seq (.ops [
 ⟨some 3,.mv (.t 0),none⟩,
 ⟨some 4,.bin .eql (.t 3) (.c (.int .u64 0)),none⟩] [0,4])
 (.cond (.t 4)
 (.seq (.ops [
 ⟨some 2,.mv (.c (.int .i64 64)),none⟩] [2])
 .ret)
 .skip))
 (.seq (.ops [
 ⟨some 5,.mv (.t 0),none⟩,
 ⟨some 6,.mv (.t 0),none⟩,
 ⟨some 7,.un .neg (.t 6),none⟩,
 ⟨some 8,.bin .and (.t 5) (.t 7),none⟩,
 ⟨some 9,.bin .mul (.t 8) (.c (.int .u64 285870213051353865)),none⟩,
 ⟨some 10,.bin .shr (.t 9) (.c (.int .u64 58)),none⟩,
 ⟨some 11,.bad,none⟩,
 ⟨some 12,.load none (.t 11),none⟩,
 ⟨some 13,.conv .i64 (.t 12),none⟩,
 ⟨some 2,.mv (.t 13),none⟩] [2])
 .ret)))⟩

noncomputable def tabT : NT := (.node 104 (h_disk_Disk_Drop,ir_disk_Disk_Drop) (.node 64 (h_slices_Concat_byte_byte,ir_slices_Concat_byte_byte) (.node 53 (h_disk_Disk_ask,ir_disk_Disk_ask) (.node 31 (h_disk_Disk_Read,ir_disk_Disk_Read) (.node 29 (h_disk_Disk_Crash,ir_disk_Disk_Crash) (.node 28 (h_disk_Disk_Append,ir_disk_Disk_Append) (.node 27 (h_disk_New,ir_disk_New) .leaf .leaf) .leaf) (.node 30 (h_disk_Disk_On,ir_disk_Disk_On) .leaf .leaf)) (.node 51 (h_disk_Disk_Lives,ir_disk_Disk_Lives) (.node 34 (h_disk_Disk_Sync,ir_disk_Disk_Sync) .leaf .leaf) (.node 52 (h_disk_Disk_Power,ir_disk_Disk_Power) .leaf .leaf))) (.node 58 (h_disk_file_all,ir_disk_file_all) (.node 56 (h_disk_file_crash,ir_disk_file_crash) (.node 55 (h_slices_Clone_byte_byte,ir_slices_Clone_byte_byte) (.node 54 (h_disk_Disk_size,ir_disk_Disk_size) .leaf .leaf) .leaf) (.node 57 (h_disk_Disk_find,ir_disk_Disk_find) .leaf .leaf)) (.node 61 (h_octet_Big,ir_octet_Big) (.node 60 (h_disk_file_sync,ir_disk_file_sync) .leaf .leaf) (.node 62 (h_sha_Of,ir_sha_Of) .leaf .leaf)))) (.node 85 (h_sha_constants,ir_sha_constants) (.node 77 (h_sha_Sum_Add,ir_sha_Sum_Add) (.node 75 (h_disk_file_crash_1,ir_disk_file_crash_1) (.node 74 (h_disk_file_size,ir_disk_file_size) (.node 73 (h_disk_good,ir_disk_good) .leaf .leaf) .leaf) (.node 76 (h_sha_New,ir_sha_New) .leaf .leaf)) (.node 80 (h_slices_Grow_byte_byte,ir_slices_Grow_byte_byte) (.node 78 (h_sha_Sum_Word,ir_sha_Sum_Word) .leaf .leaf) (.node 84 (h_sha_start,ir_sha_start) .leaf .leaf))) (.node 91 (h_sha_schedule,ir_sha_schedule) (.node 87 (h_sha_padding,ir_sha_padding) (.node 86 (h_sha_mix,ir_sha_mix) .leaf .leaf) (.node 88 (h_octet_FromBig,ir_octet_FromBig) .leaf .leaf)) (.node 94 (h_math_bits_RotateLeft32,ir_math_bits_RotateLeft32) (.node 92 (h_sha_turn,ir_sha_turn) .leaf .leaf) (.node 103 (h_disk_Disk_Rename,ir_disk_Disk_Rename) .leaf .leaf))))) (.node 217 (h_journal_next,ir_journal_next) (.node 208 (h_journal_Journal_Done,ir_journal_Journal_Done) (.node 204 (h_journal_Journal_Add,ir_journal_Journal_Add) (.node 202 (h_bandboxlaw14_awake,ir_bandboxlaw14_awake) (.node 199 (h_bandboxlaw14_JournalKnown,ir_bandboxlaw14_JournalKnown) (.node 158 (h_bytes_Clone,ir_bytes_Clone) .leaf .leaf) .leaf) (.node 203 (h_journal_Open,ir_journal_Open) .leaf .leaf)) (.node 206 (h_journal_Journal_All,ir_journal_Journal_All) (.node 205 (h_journal_Journal_Sync,ir_journal_Journal_Sync) .leaf .leaf) (.node 207 (h_bandboxlaw14_same,ir_bandboxlaw14_same) .leaf .leaf))) (.node 213 (h_journal_Journal_readPart,ir_journal_Journal_readPart) (.node 211 (h_journal_Journal_readBase,ir_journal_Journal_readBase) (.node 210 (h_journal_Journal_Base,ir_journal_Journal_Base) (.node 209 (h_journal_Journal_Keep,ir_journal_Journal_Keep) .leaf .leaf) .leaf) (.node 212 (h_journal_Journal_tidy,ir_journal_Journal_tidy) .leaf .leaf)) (.node 215 (h_journal_frame,ir_journal_frame) (.node 214 (h_journal_name,ir_journal_name) .leaf .leaf) (.node 216 (h_journal_Journal_failed,ir_journal_Journal_failed) .leaf .leaf)))) (.node 226 (h_internal_strconv_formatBits,ir_internal_strconv_formatBits) (.node 222 (h_internal_strconv_FormatInt,ir_internal_strconv_FormatInt) (.node 220 (h_bytes_Equal,ir_bytes_Equal) (.node 219 (h_strconv_FormatInt,ir_strconv_FormatInt) (.node 218 (h_strconv_FormatUint,ir_strconv_FormatUint) .leaf .leaf) .leaf) (.node 221 (h_internal_strconv_FormatUint,ir_internal_strconv_FormatUint) .leaf .leaf)) (.node 224 (h_internal_strconv_numDigits,ir_internal_strconv_numDigits) (.node 223 (h_internal_strconv_small,ir_internal_strconv_small) .leaf .leaf) (.node 225 (h_internal_strconv_formatBase10,ir_internal_strconv_formatBase10) .leaf .leaf))) (.node 230 (h_internal_strconv_isPowerOfTwo,ir_internal_strconv_isPowerOfTwo) (.node 228 (h_math_bits_Len64,ir_math_bits_Len64) (.node 227 (h_internal_strconv_log10Pow2,ir_internal_strconv_log10Pow2) .leaf .leaf) (.node 229 (h_internal_strconv_bool2_int,ir_internal_strconv_bool2_int) .leaf .leaf)) (.node 232 (h_math_bits_TrailingZeros32,ir_math_bits_TrailingZeros32) (.node 231 (h_math_bits_TrailingZeros,ir_math_bits_TrailingZeros) .leaf .leaf) (.node 233 (h_math_bits_TrailingZeros64,ir_math_bits_TrailingZeros64) .leaf .leaf))))))
noncomputable def tab : Nat → Option (Hint × AFunc) := tabT.find
abbrev n_disk_New : Nat := 27
abbrev n_disk_Disk_Append : Nat := 28
abbrev n_disk_Disk_Crash : Nat := 29
abbrev n_disk_Disk_On : Nat := 30
abbrev n_disk_Disk_Read : Nat := 31
abbrev n_disk_Disk_Sync : Nat := 34
abbrev n_disk_Disk_Lives : Nat := 51
abbrev n_disk_Disk_Power : Nat := 52
abbrev n_disk_Disk_ask : Nat := 53
abbrev n_disk_Disk_size : Nat := 54
abbrev n_slices_Clone_byte_byte : Nat := 55
abbrev n_disk_file_crash : Nat := 56
abbrev n_disk_Disk_find : Nat := 57
abbrev n_disk_file_all : Nat := 58
abbrev n_disk_file_sync : Nat := 60
abbrev n_octet_Big : Nat := 61
abbrev n_sha_Of : Nat := 62
abbrev n_slices_Concat_byte_byte : Nat := 64
abbrev n_disk_good : Nat := 73
abbrev n_disk_file_size : Nat := 74
abbrev n_disk_file_crash_1 : Nat := 75
abbrev n_sha_New : Nat := 76
abbrev n_sha_Sum_Add : Nat := 77
abbrev n_sha_Sum_Word : Nat := 78
abbrev n_slices_Grow_byte_byte : Nat := 80
abbrev n_sha_start : Nat := 84
abbrev n_sha_constants : Nat := 85
abbrev n_sha_mix : Nat := 86
abbrev n_sha_padding : Nat := 87
abbrev n_octet_FromBig : Nat := 88
abbrev n_sha_schedule : Nat := 91
abbrev n_sha_turn : Nat := 92
abbrev n_math_bits_RotateLeft32 : Nat := 94
abbrev n_disk_Disk_Rename : Nat := 103
abbrev n_disk_Disk_Drop : Nat := 104
abbrev n_bytes_Clone : Nat := 158
abbrev n_bandboxlaw14_JournalKnown : Nat := 199
abbrev n_bandboxlaw14_awake : Nat := 202
abbrev n_journal_Open : Nat := 203
abbrev n_journal_Journal_Add : Nat := 204
abbrev n_journal_Journal_Sync : Nat := 205
abbrev n_journal_Journal_All : Nat := 206
abbrev n_bandboxlaw14_same : Nat := 207
abbrev n_journal_Journal_Done : Nat := 208
abbrev n_journal_Journal_Keep : Nat := 209
abbrev n_journal_Journal_Base : Nat := 210
abbrev n_journal_Journal_readBase : Nat := 211
abbrev n_journal_Journal_tidy : Nat := 212
abbrev n_journal_Journal_readPart : Nat := 213
abbrev n_journal_name : Nat := 214
abbrev n_journal_frame : Nat := 215
abbrev n_journal_Journal_failed : Nat := 216
abbrev n_journal_next : Nat := 217
abbrev n_strconv_FormatUint : Nat := 218
abbrev n_strconv_FormatInt : Nat := 219
abbrev n_bytes_Equal : Nat := 220
abbrev n_internal_strconv_FormatUint : Nat := 221
abbrev n_internal_strconv_FormatInt : Nat := 222
abbrev n_internal_strconv_small : Nat := 223
abbrev n_internal_strconv_numDigits : Nat := 224
abbrev n_internal_strconv_formatBase10 : Nat := 225
abbrev n_internal_strconv_formatBits : Nat := 226
abbrev n_internal_strconv_log10Pow2 : Nat := 227
abbrev n_math_bits_Len64 : Nat := 228
abbrev n_internal_strconv_bool2_int : Nat := 229
abbrev n_internal_strconv_isPowerOfTwo : Nat := 230
abbrev n_math_bits_TrailingZeros : Nat := 231
abbrev n_math_bits_TrailingZeros32 : Nat := 232
abbrev n_math_bits_TrailingZeros64 : Nat := 233
end Go.Bb
