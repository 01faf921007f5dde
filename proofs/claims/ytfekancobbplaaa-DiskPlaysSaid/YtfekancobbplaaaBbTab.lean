/- The functions that this claim reaches, in short form; printed by a program of mine. -/
import Derived.Test.YtfekancobbplaaaBbG3
namespace Go.Bb
set_option maxRecDepth 20000
def h_bandboxlaw13_awake : Hint := [(0,[],[]),(1,[1,2],[]),(2,[1,18],[]),(3,[0],[]),(4,[1,3,4],[]),(5,[1,3,4],[]),(6,[1,3,4,6],[]),(7,[1,3,4,6],[]),(8,[1,3,4,6,7,8],[]),(9,[0],[])]
def ir_bandboxlaw13_awake_41 : ACode := (.seq (.ops [
 ⟨some 41,.mv (.t 3),none⟩,
 ⟨some 42,.bin .eql (.t 41) (.c (.int .i64 0)),none⟩,
 ⟨some 43,.mv (.t 42),none⟩,
 ⟨some 44,.mv (.t 4),(some (43,true))⟩,
 ⟨some 45,.bin .eql (.t 44) (.c (.int .i64 0)),(some (43,true))⟩,
 ⟨some 46,.pick (.t 43) (.t 45) (.c (.bool false)),none⟩,
 ⟨some 47,.mv (.t 46),none⟩,
 ⟨some 48,.mv (.t 6),(some (47,true))⟩,
 ⟨some 49,.bin .eql (.t 48) (.c (.int .i64 7)),(some (47,true))⟩,
 ⟨some 50,.pick (.t 47) (.t 49) (.c (.bool false)),none⟩,
 ⟨some 51,.mv (.t 50),none⟩,
 ⟨some 52,.mv (.t 8),(some (51,true))⟩,
 ⟨some 53,.bin .eql (.t 52) (.c (.int .i64 0)),(some (51,true))⟩,
 ⟨some 54,.pick (.t 51) (.t 53) (.c (.bool false)),none⟩,
 ⟨some 55,.mv (.t 54),none⟩,
 ⟨some 56,.mv (.t 7),(some (55,true))⟩,
 ⟨some 57,.strOf (.t 56),(some (55,true))⟩,
 ⟨some 58,.bin .eql (.t 57) (.c (.string ⟨#[0,0,122]⟩)),(some (55,true))⟩,
 ⟨some 59,.pick (.t 55) (.t 58) (.c (.bool false)),none⟩,
 ⟨some 60,.mv (.t 59),none⟩,
 ⟨some 61,.mv (.t 1),(some (60,true))⟩,
 ⟨some 62,.call 51 [.t 61],(some (60,true))⟩,
 ⟨some 63,.bin .eql (.t 62) (.c (.int .i64 2)),(some (60,true))⟩,
 ⟨some 64,.pick (.t 60) (.t 63) (.c (.bool false)),none⟩,
 ⟨some 65,.mv (.t 64),none⟩,
 ⟨some 66,.mv (.t 1),(some (65,true))⟩,
 ⟨some 67,.call 52 [.t 66],(some (65,true))⟩,
 ⟨some 68,.pick (.t 65) (.t 67) (.c (.bool false)),none⟩,
 ⟨some 0,.mv (.t 68),none⟩] [0])
 .ret)
def ir_bandboxlaw13_awake_27 : ACode := (.seq (.ops [
 ⟨some 27,.mv (.t 1),none⟩,
 ⟨some 28,.call 29 [.t 27,.c (.int .u64 2),.c (.int .i64 0)],none⟩] [1,3,4])
 (.seq (.ops [
 ⟨some 30,.mv (.t 1),none⟩,
 ⟨some 31,.call 31 [.t 30,.c (.string ⟨#[97]⟩)],none⟩,
 ⟨some 29,.mv (.t 31),none⟩,
 ⟨some 32,.ext (.t 29) 0,none⟩,
 ⟨some 33,.ext (.t 29) 1,none⟩,
 ⟨some 5,.mv (.t 32),none⟩,
 ⟨some 6,.mv (.t 33),none⟩] [1,3,4,6])
 (.seq (.ops [
 ⟨some 34,.mv (.t 1),none⟩,
 ⟨some 35,.call 30 [.t 34],none⟩] [1,3,4,6])
 (.seq (.ops [
 ⟨some 37,.mv (.t 1),none⟩,
 ⟨some 38,.call 31 [.t 37,.c (.string ⟨#[97]⟩)],none⟩,
 ⟨some 36,.mv (.t 38),none⟩,
 ⟨some 39,.ext (.t 36) 0,none⟩,
 ⟨some 40,.ext (.t 36) 1,none⟩,
 ⟨some 7,.mv (.t 39),none⟩,
 ⟨some 8,.mv (.t 40),none⟩] [1,3,4,6,7,8])
 ir_bandboxlaw13_awake_41))))
def ir_bandboxlaw13_awake_10 : ACode := (.seq (.ops [
 ⟨some 10,.call 27 [.c (.int .i64 64)],none⟩,
 ⟨some 9,.mv (.t 10),none⟩,
 ⟨some 11,.ext (.t 9) 0,none⟩,
 ⟨some 12,.ext (.t 9) 1,none⟩,
 ⟨some 1,.mv (.t 11),none⟩,
 ⟨some 2,.mv (.t 12),none⟩] [1,2])
 (.seq (.seq (.ops [
 ⟨some 13,.mv (.t 2),none⟩,
 ⟨some 14,.bin .neq (.t 13) (.c (.int .i64 0)),none⟩,
 ⟨some 15,.mv (.t 14),none⟩,
 ⟨some 16,.mv (.t 1),(some (15,false))⟩,
 ⟨some 17,.eqv .ptr false (.t 16) (.c (.pointer none)),(some (15,false))⟩,
 ⟨some 18,.pick (.t 15) (.c (.bool true)) (.t 17),none⟩] [1,18])
 (.cond (.t 18)
 (.seq (.ops [
 ⟨some 0,.mv (.c (.bool false)),none⟩] [0])
 .ret)
 .skip))
 (.seq (.ops [
 ⟨some 19,.mv (.t 1),none⟩,
 ⟨some 20,.bslice 2 1 ([.int .u8 0]) [(0,1,.c (.int .u8 120)),(1,1,.c (.int .u8 121))],none⟩,
 ⟨some 21,.mark (.t 20),none⟩,
 ⟨some 22,.call 28 [.t 19,.c (.string ⟨#[97]⟩),.t 21],none⟩,
 ⟨some 23,.mv (.t 1),none⟩,
 ⟨some 24,.bslice 1 1 ([.int .u8 0]) [(0,1,.c (.int .u8 122))],none⟩,
 ⟨some 25,.mark (.t 24),none⟩,
 ⟨some 26,.call 28 [.t 23,.c (.string ⟨#[97]⟩),.t 25],none⟩,
 ⟨some 3,.mv (.t 22),none⟩,
 ⟨some 4,.mv (.t 26),none⟩] [1,3,4])
 ir_bandboxlaw13_awake_27)))
def ir_bandboxlaw13_awake : AFunc := ⟨0,69,[.tmp 0],
 (.seq (.ops [
 ⟨some 0,.mv (.c (.bool false)),none⟩] [])
 ir_bandboxlaw13_awake_10)⟩

def h_disk_New : Hint := [(0,[0],[]),(1,[0,9],[]),(2,[2,3],[]),(3,[2,3],[])]
def ir_disk_New : AFunc := ⟨1,14,[.tmp 2,.tmp 3],
 (.seq (.ops [
 ⟨some 2,.mv (.c (.pointer none)),none⟩,
 ⟨some 3,.mv (.c (.int .i64 0)),none⟩] [0])
 (.seq (.seq (.ops [
 ⟨some 4,.mv (.t 0),none⟩,
 ⟨some 5,.bin .lss (.t 4) (.c (.int .i64 64)),none⟩,
 ⟨some 6,.mv (.t 5),none⟩,
 ⟨some 7,.mv (.t 0),(some (6,false))⟩,
 ⟨some 8,.bin .gtr (.t 7) (.c (.int .i64 1048576)),(some (6,false))⟩,
 ⟨some 9,.pick (.t 6) (.c (.bool true)) (.t 8),none⟩] [0,9])
 (.cond (.t 9)
 (.seq (.ops [
 ⟨some 2,.mv (.c (.pointer none)),none⟩,
 ⟨some 3,.mv (.c (.int .i64 1)),none⟩] [2,3])
 .ret)
 .skip))
 (.seq (.ops [
 ⟨some 10,.mv (.t 0),none⟩,
 ⟨some 11,.mmap,none⟩,
 ⟨some 12,.build ([.int .i64 0,.map none,.bool false,.int .i64 0]) [(0,1,.t 10),(1,1,.t 11),(2,1,.c (.bool true)),(3,1,.c (.int .i64 1))],none⟩,
 ⟨some 13,.box (.t 12),none⟩,
 ⟨some 2,.mv (.t 13),none⟩,
 ⟨some 3,.mv (.c (.int .i64 0)),none⟩] [2,3])
 .ret)))⟩

def h_disk_Disk_Append : Hint := [(0,[0,1,2],[]),(1,[0,1,2,7],[]),(2,[0,1,2,7,14],[]),(3,[6],[]),(4,[0,1,2,25],[(6,0),(7,0),(0,1),(1,1),(2,1),(3,1),(4,1),(5,1),(8,0),(9,0)]),(5,[6],[]),(6,[0,1,2,32],[]),(7,[0,1,2],[]),(8,[2,8],[]),(9,[],[(5,0),(6,0),(1,1),(2,1),(3,1),(4,1),(7,0),(8,0),(0,2),(9,0),(10,0),(11,0)]),(10,[6],[])]
def ir_disk_Disk_Append_40 : ACode := (.seq (.ops [
 ⟨some 40,.mv (.t 0),none⟩,
 ⟨some 41,.nilc (.t 40),none⟩,
 ⟨some 42,.faddr 1 (.t 41),none⟩,
 ⟨some 43,.load none (.t 42),none⟩,
 ⟨some 44,.mv (.t 1),none⟩,
 ⟨some 45,.lookup .str (.pointer none) false (.t 43) (.t 44),none⟩,
 ⟨some 8,.mv (.t 45),none⟩] [2,8])
 (.seq (.dops [
 ⟨5,some 51,.mv (.t 2),none,0⟩,
 ⟨6,some 52,.call 55 [.t 51],none,0⟩,
 ⟨1,some 47,.mv (.t 8),none,1⟩,
 ⟨2,some 48,.nilc (.t 47),none,1⟩,
 ⟨3,some 49,.faddr 1 (.t 48),none,1⟩,
 ⟨4,some 50,.load none (.t 49),none,1⟩,
 ⟨7,some 53,.bslice 1 1 ([.slice none 0 0]) [(0,1,.t 52)],none,0⟩,
 ⟨8,some 54,.append 1 24 (.t 50) (.t 53),none,0⟩,
 ⟨0,some 46,.mv (.t 8),none,2⟩,
 ⟨9,some 55,.nilc (.t 46),none,0⟩,
 ⟨10,some 56,.faddr 1 (.t 55),none,0⟩,
 ⟨11,none,.store 1 (.t 56) (.t 54),none,0⟩] [])
 (.seq (.ops [
 ⟨some 6,.mv (.c (.int .i64 0)),none⟩] [6])
 .ret)))
def ir_disk_Disk_Append_26 : ACode := (.seq (.seq (.ops [
 ⟨some 26,.mv (.t 0),none⟩,
 ⟨some 27,.nilc (.t 26),none⟩,
 ⟨some 28,.faddr 1 (.t 27),none⟩,
 ⟨some 29,.load none (.t 28),none⟩,
 ⟨some 30,.mv (.t 1),none⟩,
 ⟨some 31,.lookup .str (.pointer none) false (.t 29) (.t 30),none⟩,
 ⟨some 32,.eqv .ptr false (.t 31) (.c (.pointer none)),none⟩] [0,1,2,32])
 (.cond (.t 32)
 (.ops [
 ⟨some 33,.mv (.t 0),none⟩,
 ⟨some 34,.nilc (.t 33),none⟩,
 ⟨some 35,.faddr 1 (.t 34),none⟩,
 ⟨some 36,.load none (.t 35),none⟩,
 ⟨some 37,.mv (.t 1),none⟩,
 ⟨some 38,.build ([.slice none 0 0,.slice none 0 0]) [],none⟩,
 ⟨some 39,.box (.t 38),none⟩,
 ⟨none,.mupd .str (.t 36) (.t 37) (.t 39),none⟩] [0,1,2])
 .skip))
 ir_disk_Disk_Append_40)
def ir_disk_Disk_Append : AFunc := ⟨3,57,[.tmp 6],
 (.seq (.ops [
 ⟨some 6,.mv (.c (.int .i64 0)),none⟩] [0,1,2])
 (.seq (.seq (.ops [
 ⟨some 9,.mv (.t 0),none⟩,
 ⟨some 10,.mv (.t 1),none⟩,
 ⟨some 11,.bslice 1 1 ([.string .empty]) [(0,1,.t 10)],none⟩,
 ⟨some 12,.call 53 [.t 9,.t 11],none⟩,
 ⟨some 7,.mv (.t 12),none⟩] [0,1,2,7])
 (.seq (.ops [
 ⟨some 13,.mv (.t 7),none⟩,
 ⟨some 14,.bin .neq (.t 13) (.c (.int .i64 0)),none⟩] [0,1,2,7,14])
 (.cond (.t 14)
 (.seq (.ops [
 ⟨some 15,.mv (.t 7),none⟩,
 ⟨some 6,.mv (.t 15),none⟩] [6])
 .ret)
 .skip)))
 (.seq (.seq (.dops [
 ⟨6,some 22,.mv (.t 0),none,0⟩,
 ⟨7,some 23,.call 54 [.t 22],none,0⟩,
 ⟨0,some 16,.mv (.t 2),none,1⟩,
 ⟨1,some 17,.lenS (.t 16),none,1⟩,
 ⟨2,some 18,.mv (.t 0),none,1⟩,
 ⟨3,some 19,.nilc (.t 18),none,1⟩,
 ⟨4,some 20,.faddr 0 (.t 19),none,1⟩,
 ⟨5,some 21,.load none (.t 20),none,1⟩,
 ⟨8,some 24,.bin .sub (.t 21) (.t 23),none,0⟩,
 ⟨9,some 25,.bin .gtr (.t 17) (.t 24),none,0⟩] [0,1,2,25])
 (.cond (.t 25)
 (.seq (.ops [
 ⟨some 6,.mv (.c (.int .i64 6)),none⟩] [6])
 .ret)
 .skip))
 ir_disk_Disk_Append_26)))⟩

def h_disk_Disk_Crash : Hint := [(0,[0,1,2,12],[]),(1,[0,1,2,12,14],[]),(2,[0,1,2,7,12],[]),(3,[0,1,2,12],[]),(4,[],[])]
def ir_disk_Disk_Crash : AFunc := ⟨3,24,[],
 (.seq (.seq (.ops [
 ⟨some 8,.mv (.t 0),none⟩,
 ⟨some 9,.nilc (.t 8),none⟩,
 ⟨some 10,.faddr 1 (.t 9),none⟩,
 ⟨some 11,.load none (.t 10),none⟩,
 ⟨some 12,.rangeM (.t 11),none⟩] [0,1,2,12])
 (.block 0 (.loop (.seq (.ops [
 ⟨some 13,.nextM (.t 12),none⟩,
 ⟨some 14,.ext (.t 13) 0,none⟩] [0,1,2,12,14])
 (.seq (.cond (.t 14)
 .skip
 (.exit 0))
 (.block 1 (.seq (.ops [
 ⟨some 15,.entryM (.t 12),none⟩,
 ⟨some 16,.ext (.t 15) 1,none⟩,
 ⟨some 7,.mv (.t 16),none⟩] [0,1,2,7,12])
 (.ops [
 ⟨some 17,.mv (.t 7),none⟩,
 ⟨some 18,.mv (.t 1),none⟩,
 ⟨some 19,.mv (.t 2),none⟩,
 ⟨some 20,.call 56 [.t 17,.t 18,.t 19],none⟩] [0,1,2,12]))))))))
 (.ops [
 ⟨some 21,.mv (.t 0),none⟩,
 ⟨some 22,.nilc (.t 21),none⟩,
 ⟨some 23,.faddr 2 (.t 22),none⟩,
 ⟨none,.store 1 (.t 23) (.c (.bool false)),none⟩] []))⟩

def h_disk_Disk_On : Hint := [(0,[0],[]),(1,[],[])]
def ir_disk_Disk_On : AFunc := ⟨1,12,[],
 (.seq (.ops [
 ⟨some 2,.mv (.t 0),none⟩,
 ⟨some 3,.nilc (.t 2),none⟩,
 ⟨some 4,.faddr 2 (.t 3),none⟩,
 ⟨none,.store 1 (.t 4) (.c (.bool true)),none⟩] [0])
 (.ops [
 ⟨some 5,.mv (.t 0),none⟩,
 ⟨some 6,.nilc (.t 5),none⟩,
 ⟨some 7,.faddr 3 (.t 6),none⟩,
 ⟨some 8,.load none (.t 7),none⟩,
 ⟨some 9,.bin .add (.t 8) (.c (.int .i64 1)),none⟩,
 ⟨some 10,.nilc (.t 5),none⟩,
 ⟨some 11,.faddr 3 (.t 10),none⟩,
 ⟨none,.store 1 (.t 11) (.t 9),none⟩] []))⟩

def h_disk_Disk_Read : Hint := [(0,[0,1],[]),(1,[6,7],[]),(2,[6,7,15],[]),(3,[4,5],[]),(4,[4,5],[])]
def ir_disk_Disk_Read : AFunc := ⟨2,19,[.tmp 4,.tmp 5],
 (.seq (.ops [
 ⟨some 4,.mv (.c (.slice none 0 0)),none⟩,
 ⟨some 5,.mv (.c (.int .i64 0)),none⟩] [0,1])
 (.seq (.ops [
 ⟨some 9,.mv (.t 0),none⟩,
 ⟨some 10,.mv (.t 1),none⟩,
 ⟨some 11,.call 57 [.t 9,.t 10],none⟩,
 ⟨some 8,.mv (.t 11),none⟩,
 ⟨some 12,.ext (.t 8) 0,none⟩,
 ⟨some 13,.ext (.t 8) 1,none⟩,
 ⟨some 6,.mv (.t 12),none⟩,
 ⟨some 7,.mv (.t 13),none⟩] [6,7])
 (.seq (.seq (.ops [
 ⟨some 14,.mv (.t 7),none⟩,
 ⟨some 15,.bin .neq (.t 14) (.c (.int .i64 0)),none⟩] [6,7,15])
 (.cond (.t 15)
 (.seq (.ops [
 ⟨some 16,.mv (.t 7),none⟩,
 ⟨some 4,.mv (.c (.slice none 0 0)),none⟩,
 ⟨some 5,.mv (.t 16),none⟩] [4,5])
 .ret)
 .skip))
 (.seq (.ops [
 ⟨some 17,.mv (.t 6),none⟩,
 ⟨some 18,.call 58 [.t 17],none⟩,
 ⟨some 4,.mv (.t 18),none⟩,
 ⟨some 5,.mv (.c (.int .i64 0)),none⟩] [4,5])
 .ret))))⟩

def h_disk_Disk_Sync : Hint := [(0,[0,1],[]),(1,[5,6],[]),(2,[5,6,14],[]),(3,[6],[]),(4,[4],[])]
def ir_disk_Disk_Sync : AFunc := ⟨2,18,[.tmp 4],
 (.seq (.ops [
 ⟨some 4,.mv (.c (.int .i64 0)),none⟩] [0,1])
 (.seq (.ops [
 ⟨some 8,.mv (.t 0),none⟩,
 ⟨some 9,.mv (.t 1),none⟩,
 ⟨some 10,.call 57 [.t 8,.t 9],none⟩,
 ⟨some 7,.mv (.t 10),none⟩,
 ⟨some 11,.ext (.t 7) 0,none⟩,
 ⟨some 12,.ext (.t 7) 1,none⟩,
 ⟨some 5,.mv (.t 11),none⟩,
 ⟨some 6,.mv (.t 12),none⟩] [5,6])
 (.seq (.seq (.ops [
 ⟨some 13,.mv (.t 6),none⟩,
 ⟨some 14,.bin .eql (.t 13) (.c (.int .i64 0)),none⟩] [5,6,14])
 (.cond (.t 14)
 (.ops [
 ⟨some 15,.mv (.t 5),none⟩,
 ⟨some 16,.call 60 [.t 15],none⟩] [6])
 .skip))
 (.seq (.ops [
 ⟨some 17,.mv (.t 6),none⟩,
 ⟨some 4,.mv (.t 17),none⟩] [4])
 .ret))))⟩

def h_disk_Disk_Lives : Hint := [(0,[0],[]),(1,[2],[])]
def ir_disk_Disk_Lives : AFunc := ⟨1,7,[.tmp 2],
 (.seq (.ops [
 ⟨some 2,.mv (.c (.int .i64 0)),none⟩] [0])
 (.seq (.ops [
 ⟨some 3,.mv (.t 0),none⟩,
 ⟨some 4,.nilc (.t 3),none⟩,
 ⟨some 5,.faddr 3 (.t 4),none⟩,
 ⟨some 6,.load none (.t 5),none⟩,
 ⟨some 2,.mv (.t 6),none⟩] [2])
 .ret))⟩

def h_disk_Disk_Power : Hint := [(0,[0],[]),(1,[2],[])]
def ir_disk_Disk_Power : AFunc := ⟨1,7,[.tmp 2],
 (.seq (.ops [
 ⟨some 2,.mv (.c (.bool false)),none⟩] [0])
 (.seq (.ops [
 ⟨some 3,.mv (.t 0),none⟩,
 ⟨some 4,.nilc (.t 3),none⟩,
 ⟨some 5,.faddr 2 (.t 4),none⟩,
 ⟨some 6,.load none (.t 5),none⟩,
 ⟨some 2,.mv (.t 6),none⟩] [2])
 .ret))⟩

def h_disk_Disk_ask : Hint := [(0,[0,1],[]),(1,[1,11],[]),(2,[4],[]),(3,[12,13,14],[]),(4,[12,13,14,15],[]),(5,[6,12,13,14],[]),(6,[12,13,14,20],[]),(7,[4],[]),(8,[12,13,14],[]),(9,[4],[])]
def ir_disk_Disk_ask_7 : ACode := (.seq (.seq (.ops [
 ⟨some 7,.mv (.t 0),none⟩,
 ⟨some 8,.nilc (.t 7),none⟩,
 ⟨some 9,.faddr 2 (.t 8),none⟩,
 ⟨some 10,.load none (.t 9),none⟩,
 ⟨some 11,.un .not (.t 10),none⟩] [1,11])
 (.cond (.t 11)
 (.seq (.ops [
 ⟨some 4,.mv (.c (.int .i64 7)),none⟩] [4])
 .ret)
 .skip))
 (.seq (.seq (.ops [
 ⟨some 12,.mv (.t 1),none⟩,
 ⟨some 13,.lenS (.t 12),none⟩,
 ⟨some 14,.mv (.c (.int .i64 0)),none⟩] [12,13,14])
 (.block 0 (.loop (.seq (.ops [
 ⟨some 15,.bin .lss (.t 14) (.t 13),none⟩] [12,13,14,15])
 (.seq (.cond (.t 15)
 .skip
 (.exit 0))
 (.seq (.block 1 (.seq (.ops [
 ⟨some 16,.iaddrS 1 (.t 12) (.t 14),none⟩,
 ⟨some 17,.load none (.t 16),none⟩,
 ⟨some 6,.mv (.t 17),none⟩] [6,12,13,14])
 (.seq (.ops [
 ⟨some 18,.mv (.t 6),none⟩,
 ⟨some 19,.call 73 [.t 18],none⟩,
 ⟨some 20,.un .not (.t 19),none⟩] [12,13,14,20])
 (.cond (.t 20)
 (.seq (.ops [
 ⟨some 4,.mv (.c (.int .i64 1)),none⟩] [4])
 .ret)
 .skip))))
 (.ops [
 ⟨some 21,.bin .add (.t 14) (.c (.int .i64 1)),none⟩,
 ⟨some 14,.mv (.t 21),none⟩] [12,13,14])))))))
 (.seq (.ops [
 ⟨some 4,.mv (.c (.int .i64 0)),none⟩] [4])
 .ret)))
def ir_disk_Disk_ask : AFunc := ⟨2,22,[.tmp 4],
 (.seq (.ops [
 ⟨some 4,.mv (.c (.int .i64 0)),none⟩] [0,1])
 ir_disk_Disk_ask_7)⟩

def h_disk_Disk_size : Hint := [(0,[0],[]),(1,[0,3],[]),(2,[3,10],[]),(3,[3,10,12],[]),(4,[3,5,10],[]),(5,[3,10],[]),(6,[2],[])]
def ir_disk_Disk_size : AFunc := ⟨1,20,[.tmp 2],
 (.seq (.ops [
 ⟨some 2,.mv (.c (.int .i64 0)),none⟩] [0])
 (.seq (.ops [
 ⟨some 3,.mv (.c (.int .i64 0)),none⟩] [0,3])
 (.seq (.seq (.ops [
 ⟨some 6,.mv (.t 0),none⟩,
 ⟨some 7,.nilc (.t 6),none⟩,
 ⟨some 8,.faddr 1 (.t 7),none⟩,
 ⟨some 9,.load none (.t 8),none⟩,
 ⟨some 10,.rangeM (.t 9),none⟩] [3,10])
 (.block 0 (.loop (.seq (.ops [
 ⟨some 11,.nextM (.t 10),none⟩,
 ⟨some 12,.ext (.t 11) 0,none⟩] [3,10,12])
 (.seq (.cond (.t 12)
 .skip
 (.exit 0))
 (.block 1 (.seq (.ops [
 ⟨some 13,.entryM (.t 10),none⟩,
 ⟨some 14,.ext (.t 13) 1,none⟩,
 ⟨some 5,.mv (.t 14),none⟩] [3,5,10])
 (.ops [
 ⟨some 15,.mv (.t 3),none⟩,
 ⟨some 16,.mv (.t 5),none⟩,
 ⟨some 17,.call 74 [.t 16],none⟩,
 ⟨some 18,.bin .add (.t 15) (.t 17),none⟩,
 ⟨some 3,.mv (.t 18),none⟩] [3,10]))))))))
 (.seq (.ops [
 ⟨some 19,.mv (.t 3),none⟩,
 ⟨some 2,.mv (.t 19),none⟩] [2])
 .ret))))⟩

def h_slices_Clone_byte_byte : Hint := [(0,[0],[]),(1,[0,4],[]),(2,[2],[]),(3,[2],[])]
def ir_slices_Clone_byte_byte : AFunc := ⟨1,8,[.tmp 2],
 (.seq (.ops [
 ⟨some 2,.mv (.c (.slice none 0 0)),none⟩] [0])
 (.seq (.seq (.ops [
 ⟨some 3,.mv (.t 0),none⟩,
 ⟨some 4,.eqv .slice false (.t 3) (.c (.slice none 0 0)),none⟩] [0,4])
 (.cond (.t 4)
 (.seq (.ops [
 ⟨some 2,.mv (.c (.slice none 0 0)),none⟩] [2])
 .ret)
 .skip))
 (.seq (.ops [
 ⟨some 5,.bslice 0 1 ([.int .u8 0]) [],none⟩,
 ⟨some 6,.mv (.t 0),none⟩,
 ⟨some 7,.append 1 1 (.t 5) (.t 6),none⟩,
 ⟨some 2,.mv (.t 7),none⟩] [2])
 .ret)))⟩

def h_disk_file_crash : Hint := [(0,[0,2,4],[]),(1,[0,2,4,6],[]),(2,[0,2,6,7],[]),(3,[0,2,6,7,16,17],[]),(4,[0,2,6,7,16,17,18],[]),(5,[0,2,6,7,8,16,17],[]),(6,[0,2,6,7,8,16,17,22],[]),(7,[0,2,6,7,16,17],[]),(8,[0,2,6,7,16,17],[]),(9,[0,2,6,7,26,27],[]),(10,[0,2,6,7,26,27,28],[]),(11,[0,2,6,7,9,26,27],[]),(12,[0,2,6,7,9,10,26,27],[]),(13,[0,2,6,7,9,10,26,27,37],[]),(14,[0,2,6,7,10,26,27],[]),(15,[0,2,6,7,10,26,27,45],[]),(16,[0,2,6,7,10,26,27],[]),(17,[0,2,6,7,26,27],[]),(18,[0,2,6,7,26,27],[]),(19,[],[])]
def ir_disk_file_crash_q : ACode := (.cond (.t 37)
 (.ops [
 ⟨some 42,.mv (.t 10),none⟩,
 ⟨some 43,.lenS (.t 42),none⟩,
 ⟨some 44,.mslice 1 ([.int .u8 0]) (.t 43) (.t 43),none⟩,
 ⟨some 10,.mv (.t 44),none⟩] [0,2,6,7,10,26,27])
 (.seq (.ops [
 ⟨some 46,.mv (.t 9),none⟩,
 ⟨some 47,.mv (.t 6),none⟩,
 ⟨some 48,.bin .eql (.t 46) (.t 47),none⟩,
 ⟨some 49,.mv (.t 48),none⟩,
 ⟨some 50,.mv (.t 2),(some (49,true))⟩,
 ⟨some 51,.bin .gtr (.t 50) (.c (.int .i64 0)),(some (49,true))⟩,
 ⟨some 52,.pick (.t 49) (.t 51) (.c (.bool false)),none⟩,
 ⟨some 45,.mv (.t 52),none⟩] [0,2,6,7,10,26,27,45])
 (.cond (.t 45)
 (.ops [
 ⟨some 53,.mv (.t 10),none⟩,
 ⟨some 54,.mv (.t 10),none⟩,
 ⟨some 55,.lenS (.t 54),none⟩,
 ⟨some 56,.mv (.t 2),none⟩,
 ⟨some 57,.mv (.t 10),none⟩,
 ⟨some 58,.lenS (.t 57),none⟩,
 ⟨some 59,.mn (.t 56) (.t 58),none⟩,
 ⟨some 60,.bin .sub (.t 55) (.t 59),none⟩,
 ⟨some 61,.slSl 1 (.t 53) none (some (.t 60)) none,none⟩,
 ⟨some 10,.mv (.t 61),none⟩] [0,2,6,7,10,26,27])
 .skip)))
def ir_disk_file_crash_29 : ACode := (.seq (.block 3 (.seq (.ops [
 ⟨some 29,.mv (.t 27),none⟩,
 ⟨some 9,.mv (.t 29),none⟩] [0,2,6,7,9,26,27])
 (.seq (.ops [
 ⟨some 30,.mv (.t 0),none⟩,
 ⟨some 31,.nilc (.t 30),none⟩,
 ⟨some 32,.faddr 1 (.t 31),none⟩,
 ⟨some 33,.load none (.t 32),none⟩,
 ⟨some 34,.mv (.t 9),none⟩,
 ⟨some 35,.iaddrS 1 (.t 33) (.t 34),none⟩,
 ⟨some 36,.load none (.t 35),none⟩,
 ⟨some 10,.mv (.t 36),none⟩] [0,2,6,7,9,10,26,27])
 (.seq (.block 4 (.seq (.ops [
 ⟨some 38,.mv (.t 7),none⟩,
 ⟨some 39,.mv (.t 9),none⟩,
 ⟨some 40,.callv (.t 38) [.t 39],none⟩,
 ⟨some 41,.un .not (.t 40),none⟩,
 ⟨some 37,.mv (.t 41),none⟩] [0,2,6,7,9,10,26,27,37])
 ir_disk_file_crash_q))
 (.ops [
 ⟨some 62,.mv (.t 0),none⟩,
 ⟨some 63,.mv (.t 0),none⟩,
 ⟨some 64,.nilc (.t 63),none⟩,
 ⟨some 65,.faddr 0 (.t 64),none⟩,
 ⟨some 66,.load none (.t 65),none⟩,
 ⟨some 67,.mv (.t 10),none⟩,
 ⟨some 68,.append 1 1 (.t 66) (.t 67),none⟩,
 ⟨some 69,.nilc (.t 62),none⟩,
 ⟨some 70,.faddr 0 (.t 69),none⟩,
 ⟨none,.store 1 (.t 70) (.t 68),none⟩] [0,2,6,7,26,27])))))
 (.ops [
 ⟨some 71,.bin .add (.t 27) (.c (.int .i64 1)),none⟩,
 ⟨some 27,.mv (.t 71),none⟩] [0,2,6,7,26,27]))
def ir_disk_file_crash_25 : ACode := (.seq (.seq (.ops [
 ⟨some 25,.mv (.t 6),none⟩,
 ⟨some 26,.bin .add (.t 25) (.c (.int .i64 1)),none⟩,
 ⟨some 27,.mv (.c (.int .i64 0)),none⟩] [0,2,6,7,26,27])
 (.block 2 (.loop (.seq (.ops [
 ⟨some 28,.bin .lss (.t 27) (.t 26),none⟩] [0,2,6,7,26,27,28])
 (.seq (.cond (.t 28)
 .skip
 (.exit 2))
 ir_disk_file_crash_29)))))
 (.ops [
 ⟨some 72,.mv (.t 0),none⟩,
 ⟨some 73,.nilc (.t 72),none⟩,
 ⟨some 74,.faddr 1 (.t 73),none⟩,
 ⟨none,.store 1 (.t 74) (.c (.slice none 0 0)),none⟩] []))
def ir_disk_file_crash : AFunc := ⟨3,75,[],
 (.seq (.ops [
 ⟨some 4,.box (.t 1),none⟩] [0,2,4])
 (.seq (.ops [
 ⟨some 6,.mv (.c (.int .i64 (-1))),none⟩] [0,2,4,6])
 (.seq (.ops [
 ⟨some 11,.fn 75 [] [.t 4],none⟩,
 ⟨some 7,.mv (.t 11),none⟩] [0,2,6,7])
 (.seq (.seq (.ops [
 ⟨some 12,.mv (.t 0),none⟩,
 ⟨some 13,.nilc (.t 12),none⟩,
 ⟨some 14,.faddr 1 (.t 13),none⟩,
 ⟨some 15,.load none (.t 14),none⟩,
 ⟨some 16,.lenS (.t 15),none⟩,
 ⟨some 17,.mv (.c (.int .i64 0)),none⟩] [0,2,6,7,16,17])
 (.block 0 (.loop (.seq (.ops [
 ⟨some 18,.bin .lss (.t 17) (.t 16),none⟩] [0,2,6,7,16,17,18])
 (.seq (.cond (.t 18)
 .skip
 (.exit 0))
 (.seq (.block 1 (.seq (.ops [
 ⟨some 19,.mv (.t 17),none⟩,
 ⟨some 8,.mv (.t 19),none⟩] [0,2,6,7,8,16,17])
 (.seq (.ops [
 ⟨some 20,.mv (.t 7),none⟩,
 ⟨some 21,.mv (.t 8),none⟩,
 ⟨some 22,.callv (.t 20) [.t 21],none⟩] [0,2,6,7,8,16,17,22])
 (.cond (.t 22)
 (.ops [
 ⟨some 23,.mv (.t 8),none⟩,
 ⟨some 6,.mv (.t 23),none⟩] [0,2,6,7,16,17])
 .skip))))
 (.ops [
 ⟨some 24,.bin .add (.t 17) (.c (.int .i64 1)),none⟩,
 ⟨some 17,.mv (.t 24),none⟩] [0,2,6,7,16,17])))))))
 ir_disk_file_crash_25))))⟩

def h_disk_Disk_find : Hint := [(0,[0,1],[]),(1,[0,1,6],[]),(2,[0,1,6,14],[]),(3,[4,5],[]),(4,[7,8],[]),(5,[7,26],[]),(6,[4,5],[]),(7,[4,5],[])]
def ir_disk_Disk_find_17 : ACode := (.seq (.ops [
 ⟨some 17,.mv (.t 0),none⟩,
 ⟨some 18,.nilc (.t 17),none⟩,
 ⟨some 19,.faddr 1 (.t 18),none⟩,
 ⟨some 20,.load none (.t 19),none⟩,
 ⟨some 21,.mv (.t 1),none⟩,
 ⟨some 22,.lookup .str (.pointer none) true (.t 20) (.t 21),none⟩,
 ⟨some 16,.mv (.t 22),none⟩,
 ⟨some 23,.ext (.t 16) 0,none⟩,
 ⟨some 24,.ext (.t 16) 1,none⟩,
 ⟨some 7,.mv (.t 23),none⟩,
 ⟨some 8,.mv (.t 24),none⟩] [7,8])
 (.seq (.seq (.ops [
 ⟨some 25,.mv (.t 8),none⟩,
 ⟨some 26,.un .not (.t 25),none⟩] [7,26])
 (.cond (.t 26)
 (.seq (.ops [
 ⟨some 4,.mv (.c (.pointer none)),none⟩,
 ⟨some 5,.mv (.c (.int .i64 4)),none⟩] [4,5])
 .ret)
 .skip))
 (.seq (.ops [
 ⟨some 27,.mv (.t 7),none⟩,
 ⟨some 4,.mv (.t 27),none⟩,
 ⟨some 5,.mv (.c (.int .i64 0)),none⟩] [4,5])
 .ret)))
def ir_disk_Disk_find : AFunc := ⟨2,28,[.tmp 4,.tmp 5],
 (.seq (.ops [
 ⟨some 4,.mv (.c (.pointer none)),none⟩,
 ⟨some 5,.mv (.c (.int .i64 0)),none⟩] [0,1])
 (.seq (.seq (.ops [
 ⟨some 9,.mv (.t 0),none⟩,
 ⟨some 10,.mv (.t 1),none⟩,
 ⟨some 11,.bslice 1 1 ([.string .empty]) [(0,1,.t 10)],none⟩,
 ⟨some 12,.call 53 [.t 9,.t 11],none⟩,
 ⟨some 6,.mv (.t 12),none⟩] [0,1,6])
 (.seq (.ops [
 ⟨some 13,.mv (.t 6),none⟩,
 ⟨some 14,.bin .neq (.t 13) (.c (.int .i64 0)),none⟩] [0,1,6,14])
 (.cond (.t 14)
 (.seq (.ops [
 ⟨some 15,.mv (.t 6),none⟩,
 ⟨some 4,.mv (.c (.pointer none)),none⟩,
 ⟨some 5,.mv (.t 15),none⟩] [4,5])
 .ret)
 .skip)))
 ir_disk_Disk_find_17))⟩

def h_disk_file_all : Hint := [(0,[0],[]),(1,[2],[(0,0),(1,0),(2,0),(3,0),(4,0),(5,1),(6,1),(7,1),(8,1),(9,0),(10,0),(11,0)])]
def ir_disk_file_all : AFunc := ⟨1,14,[.tmp 2],
 (.seq (.ops [
 ⟨some 2,.mv (.c (.slice none 0 0)),none⟩] [0])
 (.seq (.dops [
 ⟨0,some 3,.mv (.t 0),none,0⟩,
 ⟨1,some 4,.nilc (.t 3),none,0⟩,
 ⟨2,some 5,.faddr 0 (.t 4),none,0⟩,
 ⟨3,some 6,.load none (.t 5),none,0⟩,
 ⟨4,some 7,.call 55 [.t 6],none,0⟩,
 ⟨5,some 8,.mv (.t 0),none,1⟩,
 ⟨6,some 9,.nilc (.t 8),none,1⟩,
 ⟨7,some 10,.faddr 1 (.t 9),none,1⟩,
 ⟨8,some 11,.load none (.t 10),none,1⟩,
 ⟨9,some 12,.call 64 [.t 11],none,0⟩,
 ⟨10,some 13,.append 1 1 (.t 7) (.t 12),none,0⟩,
 ⟨11,some 2,.mv (.t 13),none,0⟩] [2])
 .ret))⟩

def h_disk_file_sync : Hint := [(0,[],[])]
def ir_disk_file_sync : AFunc := ⟨1,10,[],
 (.ops [
 ⟨some 2,.mv (.t 0),none⟩,
 ⟨some 3,.mv (.t 0),none⟩,
 ⟨some 4,.mv (.t 0),none⟩,
 ⟨some 5,.call 58 [.t 4],none⟩,
 ⟨some 6,.nilc (.t 2),none⟩,
 ⟨some 7,.faddr 0 (.t 6),none⟩,
 ⟨none,.store 1 (.t 7) (.t 5),none⟩,
 ⟨some 8,.nilc (.t 3),none⟩,
 ⟨some 9,.faddr 1 (.t 8),none⟩,
 ⟨none,.store 1 (.t 9) (.c (.slice none 0 0)),none⟩] [])⟩

def h_slices_Concat_byte_byte : Hint := [(0,[0],[]),(1,[0,3],[]),(2,[0,3,9,10,11],[]),(3,[0,3,9,10,11,12],[]),(4,[0,3,5,9,10,11],[]),(5,[0,3,9,10,11],[]),(6,[0,3,9,10,11,20],[]),(7,[0,3,9,10,11],[]),(8,[0,3,9,10,11],[]),(9,[0,6],[]),(10,[6,25,26,27],[]),(11,[6,25,26,27,28],[]),(12,[6,8,25,26,27],[]),(13,[6,25,26,27],[]),(14,[6,25,26,27],[]),(15,[2],[])]
def ir_slices_Concat_byte_byte : AFunc := ⟨1,36,[.tmp 2],
 (.seq (.ops [
 ⟨some 2,.mv (.c (.slice none 0 0)),none⟩] [0])
 (.seq (.ops [
 ⟨some 3,.mv (.c (.int .i64 0)),none⟩] [0,3])
 (.seq (.seq (.ops [
 ⟨some 9,.mv (.t 0),none⟩,
 ⟨some 10,.lenS (.t 9),none⟩,
 ⟨some 11,.mv (.c (.int .i64 0)),none⟩] [0,3,9,10,11])
 (.block 0
 (.loop
 (.seq (.ops [
 ⟨some 12,.bin .lss (.t 11) (.t 10),none⟩] [0,3,9,10,11,12])
 (.seq (.cond (.t 12)
 .skip
 (.exit 0))
 (.seq (.block 1
 (.seq (.ops [
 ⟨some 13,.iaddrS 1 (.t 9) (.t 11),none⟩,
 ⟨some 14,.load none (.t 13),none⟩,
 ⟨some 5,.mv (.t 14),none⟩] [0,3,5,9,10,11])
 (.seq (.ops [
 ⟨some 15,.mv (.t 3),none⟩,
 ⟨some 16,.mv (.t 5),none⟩,
 ⟨some 17,.lenS (.t 16),none⟩,
 ⟨some 18,.bin .add (.t 15) (.t 17),none⟩,
 ⟨some 3,.mv (.t 18),none⟩] [0,3,9,10,11])
 (.seq (.ops [
 ⟨some 19,.mv (.t 3),none⟩,
 ⟨some 20,.bin .lss (.t 19) (.c (.int .i64 0)),none⟩] [0,3,9,10,11,20])
 (.cond (.t 20)
 (.ops [
 ⟨some 21,.bad,none⟩,
 ⟨none,.bad,none⟩] [0,3,9,10,11])
 .skip)))))
 (.ops [
 ⟨some 22,.bin .add (.t 11) (.c (.int .i64 1)),none⟩,
 ⟨some 11,.mv (.t 22),none⟩] [0,3,9,10,11])))))))
 (.seq (.ops [
 ⟨some 23,.mv (.t 3),none⟩,
 ⟨some 24,.call 80 [.c (.slice none 0 0),.t 23],none⟩,
 ⟨some 6,.mv (.t 24),none⟩] [0,6])
 (.seq (.seq (.ops [
 ⟨some 25,.mv (.t 0),none⟩,
 ⟨some 26,.lenS (.t 25),none⟩,
 ⟨some 27,.mv (.c (.int .i64 0)),none⟩] [6,25,26,27])
 (.block 2
 (.loop
 (.seq (.ops [
 ⟨some 28,.bin .lss (.t 27) (.t 26),none⟩] [6,25,26,27,28])
 (.seq (.cond (.t 28)
 .skip
 (.exit 2))
 (.seq (.block 3
 (.seq (.ops [
 ⟨some 29,.iaddrS 1 (.t 25) (.t 27),none⟩,
 ⟨some 30,.load none (.t 29),none⟩,
 ⟨some 8,.mv (.t 30),none⟩] [6,8,25,26,27])
 (.ops [
 ⟨some 31,.mv (.t 6),none⟩,
 ⟨some 32,.mv (.t 8),none⟩,
 ⟨some 33,.append 1 1 (.t 31) (.t 32),none⟩,
 ⟨some 6,.mv (.t 33),none⟩] [6,25,26,27])))
 (.ops [
 ⟨some 34,.bin .add (.t 27) (.c (.int .i64 1)),none⟩,
 ⟨some 27,.mv (.t 34),none⟩] [6,25,26,27])))))))
 (.seq (.ops [
 ⟨some 35,.mv (.t 6),none⟩,
 ⟨some 2,.mv (.t 35),none⟩] [2])
 .ret))))))⟩

def h_disk_good : Hint := [(0,[0],[]),(1,[0,5,6],[]),(2,[0,5,6,7],[]),(3,[0,3,5,6],[]),(4,[0,5,6,18],[]),(5,[2],[]),(6,[0,5,6],[]),(7,[2],[])]
def ir_disk_good_20 : ACode := (.seq (.ops [
 ⟨some 20,.mv (.t 0),none⟩,
 ⟨some 21,.lenStr (.t 20),none⟩,
 ⟨some 22,.bin .geq (.t 21) (.c (.int .i64 1)),none⟩,
 ⟨some 23,.mv (.t 22),none⟩,
 ⟨some 24,.mv (.t 0),(some (23,true))⟩,
 ⟨some 25,.lenStr (.t 24),(some (23,true))⟩,
 ⟨some 26,.bin .leq (.t 25) (.c (.int .i64 20)),(some (23,true))⟩,
 ⟨some 27,.pick (.t 23) (.t 26) (.c (.bool false)),none⟩,
 ⟨some 2,.mv (.t 27),none⟩] [2])
 .ret)
def ir_disk_good : AFunc := ⟨1,28,[.tmp 2],
 (.seq (.ops [
 ⟨some 2,.mv (.c (.bool false)),none⟩] [0])
 (.seq (.seq (.ops [
 ⟨some 4,.mv (.t 0),none⟩,
 ⟨some 5,.lenStr (.t 4),none⟩,
 ⟨some 6,.mv (.c (.int .i64 0)),none⟩] [0,5,6])
 (.block 0 (.loop (.seq (.ops [
 ⟨some 7,.bin .lss (.t 6) (.t 5),none⟩] [0,5,6,7])
 (.seq (.cond (.t 7)
 .skip
 (.exit 0))
 (.seq (.block 1 (.seq (.ops [
 ⟨some 8,.mv (.t 6),none⟩,
 ⟨some 3,.mv (.t 8),none⟩] [0,3,5,6])
 (.seq (.ops [
 ⟨some 9,.mv (.t 0),none⟩,
 ⟨some 10,.mv (.t 3),none⟩,
 ⟨some 11,.idxS (.t 9) (.t 10),none⟩,
 ⟨some 12,.bin .lss (.t 11) (.c (.int .u8 33)),none⟩,
 ⟨some 13,.mv (.t 12),none⟩,
 ⟨some 14,.mv (.t 0),(some (13,false))⟩,
 ⟨some 15,.mv (.t 3),(some (13,false))⟩,
 ⟨some 16,.idxS (.t 14) (.t 15),(some (13,false))⟩,
 ⟨some 17,.bin .gtr (.t 16) (.c (.int .u8 126)),(some (13,false))⟩,
 ⟨some 18,.pick (.t 13) (.c (.bool true)) (.t 17),none⟩] [0,5,6,18])
 (.cond (.t 18)
 (.seq (.ops [
 ⟨some 2,.mv (.c (.bool false)),none⟩] [2])
 .ret)
 .skip))))
 (.ops [
 ⟨some 19,.bin .add (.t 6) (.c (.int .i64 1)),none⟩,
 ⟨some 6,.mv (.t 19),none⟩] [0,5,6])))))))
 ir_disk_good_20))⟩

def h_disk_file_size : Hint := [(0,[0],[]),(1,[0,3],[]),(2,[3,14,15,16],[]),(3,[3,14,15,16,17],[]),(4,[3,5,14,15,16],[]),(5,[3,14,15,16],[]),(6,[3,14,15,16],[]),(7,[2],[])]
def ir_disk_file_size_6 : ACode := (.seq (.ops [
 ⟨some 6,.mv (.t 0),none⟩,
 ⟨some 7,.nilc (.t 6),none⟩,
 ⟨some 8,.faddr 0 (.t 7),none⟩,
 ⟨some 9,.load none (.t 8),none⟩,
 ⟨some 10,.lenS (.t 9),none⟩,
 ⟨some 3,.mv (.t 10),none⟩] [0,3])
 (.seq (.seq (.ops [
 ⟨some 11,.mv (.t 0),none⟩,
 ⟨some 12,.nilc (.t 11),none⟩,
 ⟨some 13,.faddr 1 (.t 12),none⟩,
 ⟨some 14,.load none (.t 13),none⟩,
 ⟨some 15,.lenS (.t 14),none⟩,
 ⟨some 16,.mv (.c (.int .i64 0)),none⟩] [3,14,15,16])
 (.block 0 (.loop (.seq (.ops [
 ⟨some 17,.bin .lss (.t 16) (.t 15),none⟩] [3,14,15,16,17])
 (.seq (.cond (.t 17)
 .skip
 (.exit 0))
 (.seq (.block 1 (.seq (.ops [
 ⟨some 18,.iaddrS 1 (.t 14) (.t 16),none⟩,
 ⟨some 19,.load none (.t 18),none⟩,
 ⟨some 5,.mv (.t 19),none⟩] [3,5,14,15,16])
 (.ops [
 ⟨some 20,.mv (.t 3),none⟩,
 ⟨some 21,.mv (.t 5),none⟩,
 ⟨some 22,.lenS (.t 21),none⟩,
 ⟨some 23,.bin .add (.t 20) (.t 22),none⟩,
 ⟨some 3,.mv (.t 23),none⟩] [3,14,15,16])))
 (.ops [
 ⟨some 24,.bin .add (.t 16) (.c (.int .i64 1)),none⟩,
 ⟨some 16,.mv (.t 24),none⟩] [3,14,15,16])))))))
 (.seq (.ops [
 ⟨some 25,.mv (.t 3),none⟩,
 ⟨some 2,.mv (.t 25),none⟩] [2])
 .ret)))
def ir_disk_file_size : AFunc := ⟨1,26,[.tmp 2],
 (.seq (.ops [
 ⟨some 2,.mv (.c (.int .i64 0)),none⟩] [0])
 ir_disk_file_size_6)⟩

def h_disk_file_crash_1 : Hint := [(0,[0,1],[]),(1,[3],[])]
def ir_disk_file_crash_1 : AFunc := ⟨1,10,[.tmp 3],
 (.seq (.ops [
 ⟨some 3,.mv (.c (.bool false)),none⟩] [0,1])
 (.seq (.ops [
 ⟨some 4,.load none (.t 1),none⟩,
 ⟨some 5,.mv (.t 0),none⟩,
 ⟨some 6,.mn (.t 5) (.c (.int .i64 63)),none⟩,
 ⟨some 7,.bin .shr (.t 4) (.t 6),none⟩,
 ⟨some 8,.bin .and (.t 7) (.c (.int .u64 1)),none⟩,
 ⟨some 9,.bin .eql (.t 8) (.c (.int .u64 1)),none⟩,
 ⟨some 3,.mv (.t 9),none⟩] [3])
 .ret))⟩

def h_slices_Grow_byte_byte : Hint := [(0,[0,1],[]),(1,[0,1,6],[]),(2,[0,1],[]),(3,[0,1],[]),(4,[0,1,16],[]),(5,[0],[]),(6,[4],[])]
def ir_slices_Grow_byte_byte : AFunc := ⟨2,27,[.tmp 4],
 (.seq (.ops [
 ⟨some 4,.mv (.c (.slice none 0 0)),none⟩] [0,1])
 (.seq (.seq (.ops [
 ⟨some 5,.mv (.t 1),none⟩,
 ⟨some 6,.bin .lss (.t 5) (.c (.int .i64 0)),none⟩] [0,1,6])
 (.cond (.t 6)
 (.ops [
 ⟨some 7,.bad,none⟩,
 ⟨none,.bad,none⟩] [0,1])
 .skip))
 (.seq (.seq (.ops [
 ⟨some 8,.mv (.t 1),none⟩,
 ⟨some 9,.mv (.t 0),none⟩,
 ⟨some 10,.capS (.t 9),none⟩,
 ⟨some 11,.mv (.t 0),none⟩,
 ⟨some 12,.lenS (.t 11),none⟩,
 ⟨some 13,.bin .sub (.t 10) (.t 12),none⟩,
 ⟨some 14,.bin .sub (.t 8) (.t 13),none⟩,
 ⟨some 1,.mv (.t 14),none⟩] [0,1])
 (.seq (.ops [
 ⟨some 15,.mv (.t 1),none⟩,
 ⟨some 16,.bin .gtr (.t 15) (.c (.int .i64 0)),none⟩] [0,1,16])
 (.cond (.t 16)
 (.ops [
 ⟨some 17,.mv (.t 0),none⟩,
 ⟨some 18,.mv (.t 0),none⟩,
 ⟨some 19,.capS (.t 18),none⟩,
 ⟨some 20,.slSl 1 (.t 17) none (some (.t 19)) none,none⟩,
 ⟨some 21,.mv (.t 1),none⟩,
 ⟨some 22,.appendZ 1 1 ([.int .u8 0]) (.t 20) (.t 21),none⟩,
 ⟨some 23,.mv (.t 0),none⟩,
 ⟨some 24,.lenS (.t 23),none⟩,
 ⟨some 25,.slSl 1 (.t 22) none (some (.t 24)) none,none⟩,
 ⟨some 0,.mv (.t 25),none⟩] [0])
 .skip)))
 (.seq (.ops [
 ⟨some 26,.mv (.t 0),none⟩,
 ⟨some 4,.mv (.t 26),none⟩] [4])
 .ret))))⟩

def h_bandboxlaw13_DiskPlays : Hint := [(0,[0,1],[]),(1,[0,1,16],[]),(2,[4],[]),(3,[0,1,5,6],[]),(4,[0,1,5,6,27],[]),(5,[4],[]),(6,[0,1,5,6,44],[]),(7,[4],[]),(8,[1,5,7],[]),(9,[1,5,7,8],[]),(10,[1,5,7,8,57],[]),(11,[1,5,7,8],[]),(12,[1,5,7,8,9],[]),(13,[1,5,7,8,9,79],[]),(14,[4],[]),(15,[1,5,7,8,9,10],[]),(16,[1,5,7,8,9,10,81],[]),(17,[1,5,7,8,9,10],[]),(18,[1,5,7,8,9,10],[]),(19,[1,5,7,8,9,10,81,86],[]),(20,[1,5,7,8,9,10],[(0,0),(1,0),(2,0),(3,0),(4,0),(5,0),(6,1),(7,1),(8,1),(9,1),(10,1),(11,0),(12,0),(13,0)]),(21,[1,5,7,8,9,10,81,101],[]),(22,[1,5,7,8,9,10],[(0,0),(1,0),(2,0),(3,0),(4,1),(5,1),(6,1),(7,0),(8,0),(9,0)]),(23,[1,5,7,8,9,10,81,112],[]),(24,[1,5,7,8,9,10],[(0,0),(1,0),(2,0),(3,0),(4,0),(5,0),(6,1),(7,1),(8,1),(9,1),(10,1),(11,0),(12,0),(13,0)]),(25,[1,5,7,8,9,10,81,127],[]),(26,[1,5,7,8,9,10],[(0,0),(1,0),(2,0),(3,0),(4,1),(5,1),(6,1),(7,0),(8,0),(9,0)]),(27,[1,5,7,8,9,10,138],[]),(28,[1,5,7,8,9,10],[]),(29,[1,5,7,8,9,10],[]),(30,[1,5,7,8,9,10,11,12],[]),(31,[1,5,7,8,10,11,12,13,14],[]),(32,[1,5,7,8,204],[(0,0),(1,0),(2,0),(3,0),(4,0),(5,0),(6,0),(7,0),(8,0),(9,0),(10,0),(11,0),(12,0),(13,0),(14,0),(15,0),(16,0),(17,1),(18,0),(19,0),(20,0),(21,0),(22,0),(23,0),(24,1),(25,1),(26,1),(27,1),(28,0),(29,0),(30,0),(31,0),(32,0),(33,1),(34,1),(35,1),(36,1),(37,0),(38,0)]),(33,[4],[]),(34,[4],[])]
def ir_bandboxlaw13_DiskPlays_166 : ACode := (.seq (.dops [
 ⟨0,some 166,.mv (.t 10),none,0⟩,
 ⟨1,some 167,.un .not (.t 166),none,0⟩,
 ⟨2,some 168,.mv (.t 167),none,0⟩,
 ⟨3,some 169,.mv (.t 11),(some (168,false)),0⟩,
 ⟨4,some 170,.strOf (.t 169),(some (168,false)),0⟩,
 ⟨5,some 171,.mv (.t 13),(some (168,false)),0⟩,
 ⟨6,some 172,.strOf (.t 171),(some (168,false)),0⟩,
 ⟨7,some 173,.bin .neq (.t 170) (.t 172),(some (168,false)),0⟩,
 ⟨8,some 174,.pick (.t 168) (.c (.bool true)) (.t 173),none,0⟩,
 ⟨9,some 175,.mv (.t 174),none,0⟩,
 ⟨10,some 176,.mv (.t 12),(some (175,false)),0⟩,
 ⟨11,some 177,.mv (.t 14),(some (175,false)),0⟩,
 ⟨12,some 178,.bin .neq (.t 176) (.t 177),(some (175,false)),0⟩,
 ⟨13,some 179,.pick (.t 175) (.c (.bool true)) (.t 178),none,0⟩,
 ⟨14,some 180,.mv (.t 179),none,0⟩,
 ⟨15,some 181,.mv (.t 5),(some (180,false)),0⟩,
 ⟨16,some 182,.call 105 [.t 181],(some (180,false)),0⟩,
 ⟨17,some 183,.mv (.t 7),(some (180,false)),1⟩,
 ⟨18,some 184,.call 113 [.t 183],(some (180,false)),0⟩,
 ⟨19,some 185,.bin .neq (.t 182) (.t 184),(some (180,false)),0⟩,
 ⟨20,some 186,.pick (.t 180) (.c (.bool true)) (.t 185),none,0⟩,
 ⟨21,some 187,.mv (.t 186),none,0⟩,
 ⟨22,some 188,.mv (.t 5),(some (187,false)),0⟩,
 ⟨23,some 189,.call 52 [.t 188],(some (187,false)),0⟩,
 ⟨24,some 190,.mv (.t 7),(some (187,false)),1⟩,
 ⟨25,some 191,.nilc (.t 190),(some (187,false)),1⟩,
 ⟨26,some 192,.faddr 2 (.t 191),(some (187,false)),1⟩,
 ⟨27,some 193,.load none (.t 192),(some (187,false)),1⟩,
 ⟨28,some 194,.eqv .bool false (.t 189) (.t 193),(some (187,false)),0⟩,
 ⟨29,some 195,.pick (.t 187) (.c (.bool true)) (.t 194),none,0⟩,
 ⟨30,some 196,.mv (.t 195),none,0⟩,
 ⟨31,some 197,.mv (.t 5),(some (196,false)),0⟩,
 ⟨32,some 198,.call 51 [.t 197],(some (196,false)),0⟩,
 ⟨33,some 199,.mv (.t 7),(some (196,false)),1⟩,
 ⟨34,some 200,.nilc (.t 199),(some (196,false)),1⟩,
 ⟨35,some 201,.faddr 3 (.t 200),(some (196,false)),1⟩,
 ⟨36,some 202,.load none (.t 201),(some (196,false)),1⟩,
 ⟨37,some 203,.bin .neq (.t 198) (.t 202),(some (196,false)),0⟩,
 ⟨38,some 204,.pick (.t 196) (.c (.bool true)) (.t 203),none,0⟩] [1,5,7,8,204])
 (.cond (.t 204)
 (.seq (.ops [
 ⟨some 4,.mv (.c (.bool false)),none⟩] [4])
 .ret)
 .skip))
def ir_bandboxlaw13_DiskPlays_q : ACode := (.cond (.t 127)
 (.dops [
 ⟨0,some 129,.mv (.t 5),none,0⟩,
 ⟨1,some 130,.faddr 3 (.t 9),none,0⟩,
 ⟨2,some 131,.load none (.t 130),none,0⟩,
 ⟨3,some 132,.call 104 [.t 129,.t 131],none,0⟩,
 ⟨4,some 133,.mv (.t 7),none,1⟩,
 ⟨5,some 134,.faddr 3 (.t 9),none,1⟩,
 ⟨6,some 135,.load none (.t 134),none,1⟩,
 ⟨7,some 136,.call 109 [.t 133,.t 135],none,0⟩,
 ⟨8,some 137,.bin .eql (.t 132) (.t 136),none,0⟩,
 ⟨9,some 10,.mv (.t 137),none,0⟩] [1,5,7,8,9,10])
 (.seq (.ops [
 ⟨some 139,.bin .eql (.t 81) (.c (.int .i64 4)),none⟩,
 ⟨some 138,.mv (.t 139),none⟩] [1,5,7,8,9,10,138])
 (.cond (.t 138)
 (.seq (.ops [
 ⟨some 140,.mv (.t 5),none⟩,
 ⟨some 141,.faddr 2 (.t 9),none⟩,
 ⟨some 142,.load none (.t 141),none⟩,
 ⟨some 143,.faddr 1 (.t 9),none⟩,
 ⟨some 144,.load none (.t 143),none⟩,
 ⟨some 145,.call 29 [.t 140,.t 142,.t 144],none⟩] [1,5,7,8,9,10])
 (.ops [
 ⟨some 146,.mv (.t 7),none⟩,
 ⟨some 147,.faddr 2 (.t 9),none⟩,
 ⟨some 148,.load none (.t 147),none⟩,
 ⟨some 149,.faddr 1 (.t 9),none⟩,
 ⟨some 150,.load none (.t 149),none⟩,
 ⟨some 151,.call 110 [.t 146,.t 148,.t 150],none⟩] [1,5,7,8,9,10]))
 (.seq (.ops [
 ⟨some 82,.mv (.t 5),none⟩,
 ⟨some 83,.call 30 [.t 82],none⟩] [1,5,7,8,9,10])
 (.ops [
 ⟨some 84,.mv (.t 7),none⟩,
 ⟨some 85,.call 111 [.t 84],none⟩] [1,5,7,8,9,10])))))
def ir_bandboxlaw13_DiskPlays_q_2 : ACode := (.cond (.t 101)
 (.dops [
 ⟨0,some 103,.mv (.t 5),none,0⟩,
 ⟨1,some 104,.faddr 3 (.t 9),none,0⟩,
 ⟨2,some 105,.load none (.t 104),none,0⟩,
 ⟨3,some 106,.call 34 [.t 103,.t 105],none,0⟩,
 ⟨4,some 107,.mv (.t 7),none,1⟩,
 ⟨5,some 108,.faddr 3 (.t 9),none,1⟩,
 ⟨6,some 109,.load none (.t 108),none,1⟩,
 ⟨7,some 110,.call 107 [.t 107,.t 109],none,0⟩,
 ⟨8,some 111,.bin .eql (.t 106) (.t 110),none,0⟩,
 ⟨9,some 10,.mv (.t 111),none,0⟩] [1,5,7,8,9,10])
 (.seq (.ops [
 ⟨some 113,.bin .eql (.t 81) (.c (.int .i64 2)),none⟩,
 ⟨some 112,.mv (.t 113),none⟩] [1,5,7,8,9,10,81,112])
 (.cond (.t 112)
 (.dops [
 ⟨0,some 114,.mv (.t 5),none,0⟩,
 ⟨1,some 115,.faddr 3 (.t 9),none,0⟩,
 ⟨2,some 116,.load none (.t 115),none,0⟩,
 ⟨3,some 117,.faddr 4 (.t 9),none,0⟩,
 ⟨4,some 118,.load none (.t 117),none,0⟩,
 ⟨5,some 119,.call 103 [.t 114,.t 116,.t 118],none,0⟩,
 ⟨6,some 120,.mv (.t 7),none,1⟩,
 ⟨7,some 121,.faddr 3 (.t 9),none,1⟩,
 ⟨8,some 122,.load none (.t 121),none,1⟩,
 ⟨9,some 123,.faddr 4 (.t 9),none,1⟩,
 ⟨10,some 124,.load none (.t 123),none,1⟩,
 ⟨11,some 125,.call 108 [.t 120,.t 122,.t 124],none,0⟩,
 ⟨12,some 126,.bin .eql (.t 119) (.t 125),none,0⟩,
 ⟨13,some 10,.mv (.t 126),none,0⟩] [1,5,7,8,9,10])
 (.seq (.ops [
 ⟨some 128,.bin .eql (.t 81) (.c (.int .i64 3)),none⟩,
 ⟨some 127,.mv (.t 128),none⟩] [1,5,7,8,9,10,81,127])
 ir_bandboxlaw13_DiskPlays_q))))
def ir_bandboxlaw13_DiskPlays_153 : ACode := (.seq (.ops [
 ⟨some 153,.mv (.t 5),none⟩,
 ⟨some 154,.faddr 3 (.t 9),none⟩,
 ⟨some 155,.load none (.t 154),none⟩,
 ⟨some 156,.call 31 [.t 153,.t 155],none⟩,
 ⟨some 152,.mv (.t 156),none⟩,
 ⟨some 157,.ext (.t 152) 0,none⟩,
 ⟨some 158,.ext (.t 152) 1,none⟩,
 ⟨some 11,.mv (.t 157),none⟩,
 ⟨some 12,.mv (.t 158),none⟩] [1,5,7,8,9,10,11,12])
 (.seq (.ops [
 ⟨some 160,.mv (.t 7),none⟩,
 ⟨some 161,.faddr 3 (.t 9),none⟩,
 ⟨some 162,.load none (.t 161),none⟩,
 ⟨some 163,.call 112 [.t 160,.t 162],none⟩,
 ⟨some 159,.mv (.t 163),none⟩,
 ⟨some 164,.ext (.t 159) 0,none⟩,
 ⟨some 165,.ext (.t 159) 1,none⟩,
 ⟨some 13,.mv (.t 164),none⟩,
 ⟨some 14,.mv (.t 165),none⟩] [1,5,7,8,10,11,12,13,14])
 ir_bandboxlaw13_DiskPlays_166))
def ir_bandboxlaw13_DiskPlays_80 : ACode := (.seq (.seq (.ops [
 ⟨some 80,.faddr 0 (.t 9),none⟩,
 ⟨some 81,.load none (.t 80),none⟩] [1,5,7,8,9,10,81])
 (.block 2 (.seq (.ops [
 ⟨some 87,.bin .eql (.t 81) (.c (.int .i64 0)),none⟩,
 ⟨some 86,.mv (.t 87),none⟩] [1,5,7,8,9,10,81,86])
 (.cond (.t 86)
 (.dops [
 ⟨0,some 88,.mv (.t 5),none,0⟩,
 ⟨1,some 89,.faddr 3 (.t 9),none,0⟩,
 ⟨2,some 90,.load none (.t 89),none,0⟩,
 ⟨3,some 91,.faddr 5 (.t 9),none,0⟩,
 ⟨4,some 92,.load none (.t 91),none,0⟩,
 ⟨5,some 93,.call 28 [.t 88,.t 90,.t 92],none,0⟩,
 ⟨6,some 94,.mv (.t 7),none,1⟩,
 ⟨7,some 95,.faddr 3 (.t 9),none,1⟩,
 ⟨8,some 96,.load none (.t 95),none,1⟩,
 ⟨9,some 97,.faddr 5 (.t 9),none,1⟩,
 ⟨10,some 98,.load none (.t 97),none,1⟩,
 ⟨11,some 99,.call 106 [.t 94,.t 96,.t 98],none,0⟩,
 ⟨12,some 100,.bin .eql (.t 93) (.t 99),none,0⟩,
 ⟨13,some 10,.mv (.t 100),none,0⟩] [1,5,7,8,9,10])
 (.seq (.ops [
 ⟨some 102,.bin .eql (.t 81) (.c (.int .i64 1)),none⟩,
 ⟨some 101,.mv (.t 102),none⟩] [1,5,7,8,9,10,81,101])
 ir_bandboxlaw13_DiskPlays_q_2)))))
 ir_bandboxlaw13_DiskPlays_153)
def ir_bandboxlaw13_DiskPlays_64 : ACode := (.seq (.seq (.ops [
 ⟨some 64,.faddr 5 (.t 9),none⟩,
 ⟨some 65,.load none (.t 64),none⟩,
 ⟨some 66,.lenS (.t 65),none⟩,
 ⟨some 67,.bin .gtr (.t 66) (.c (.int .i64 300)),none⟩,
 ⟨some 68,.mv (.t 67),none⟩,
 ⟨some 69,.faddr 3 (.t 9),(some (68,false))⟩,
 ⟨some 70,.load none (.t 69),(some (68,false))⟩,
 ⟨some 71,.lenStr (.t 70),(some (68,false))⟩,
 ⟨some 72,.bin .gtr (.t 71) (.c (.int .i64 30)),(some (68,false))⟩,
 ⟨some 73,.pick (.t 68) (.c (.bool true)) (.t 72),none⟩,
 ⟨some 74,.mv (.t 73),none⟩,
 ⟨some 75,.faddr 4 (.t 9),(some (74,false))⟩,
 ⟨some 76,.load none (.t 75),(some (74,false))⟩,
 ⟨some 77,.lenStr (.t 76),(some (74,false))⟩,
 ⟨some 78,.bin .gtr (.t 77) (.c (.int .i64 30)),(some (74,false))⟩,
 ⟨some 79,.pick (.t 74) (.c (.bool true)) (.t 78),none⟩] [1,5,7,8,9,79])
 (.cond (.t 79)
 (.seq (.ops [
 ⟨some 4,.mv (.c (.bool true)),none⟩] [4])
 .ret)
 .skip))
 (.seq (.ops [
 ⟨some 10,.mv (.c (.bool true)),none⟩] [1,5,7,8,9,10])
 ir_bandboxlaw13_DiskPlays_80))
def ir_bandboxlaw13_DiskPlays_51 : ACode := (.seq (.ops [
 ⟨some 51,.mv (.t 0),none⟩,
 ⟨some 52,.build ([.int .i64 0,.slice none 0 0,.bool false,.int .i64 0]) [(0,1,.t 51),(3,1,.c (.int .i64 1))],none⟩,
 ⟨some 53,.box (.t 52),none⟩,
 ⟨some 7,.mv (.t 53),none⟩] [1,5,7])
 (.seq (.seq (.ops [
 ⟨some 8,.mv (.c (.int .i64 0)),none⟩] [1,5,7,8])
 (.block 0 (.loop (.seq (.seq (.ops [
 ⟨some 54,.mv (.t 8),none⟩,
 ⟨some 55,.mv (.t 1),none⟩,
 ⟨some 56,.lenS (.t 55),none⟩,
 ⟨some 57,.bin .lss (.t 54) (.t 56),none⟩] [1,5,7,8,57])
 (.cond (.t 57)
 .skip
 (.exit 0)))
 (.seq (.block 1 (.seq (.ops [
 ⟨some 60,.mv (.t 1),none⟩,
 ⟨some 61,.mv (.t 8),none⟩,
 ⟨some 62,.iaddrS 6 (.t 60) (.t 61),none⟩,
 ⟨some 63,.load (some 6) (.t 62),none⟩,
 ⟨some 9,.alloc ([.int .i64 0,.int .i64 0,.int .u64 0,.string .empty,.string .empty,.slice none 0 0]),none⟩,
 ⟨none,.store 6 (.t 9) (.t 63),none⟩] [1,5,7,8,9])
 ir_bandboxlaw13_DiskPlays_64))
 (.ops [
 ⟨some 58,.mv (.t 8),none⟩,
 ⟨some 59,.bin .add (.t 58) (.c (.int .i64 1)),none⟩,
 ⟨some 8,.mv (.t 59),none⟩] [1,5,7,8]))))))
 (.seq (.ops [
 ⟨some 4,.mv (.c (.bool true)),none⟩] [4])
 .ret)))
def ir_bandboxlaw13_DiskPlays_34 : ACode := (.seq (.seq (.ops [
 ⟨some 34,.mv (.t 6),none⟩,
 ⟨some 35,.bin .neq (.t 34) (.c (.int .i64 0)),none⟩,
 ⟨some 36,.mv (.t 35),none⟩,
 ⟨some 37,.mv (.t 5),(some (36,false))⟩,
 ⟨some 38,.eqv .ptr false (.t 37) (.c (.pointer none)),(some (36,false))⟩,
 ⟨some 39,.pick (.t 36) (.c (.bool true)) (.t 38),none⟩,
 ⟨some 40,.mv (.t 39),none⟩,
 ⟨some 41,.mv (.t 1),(some (40,false))⟩,
 ⟨some 42,.lenS (.t 41),(some (40,false))⟩,
 ⟨some 43,.bin .gtr (.t 42) (.c (.int .i64 80)),(some (40,false))⟩,
 ⟨some 44,.pick (.t 40) (.c (.bool true)) (.t 43),none⟩] [0,1,5,6,44])
 (.cond (.t 44)
 (.seq (.ops [
 ⟨some 45,.mv (.t 6),none⟩,
 ⟨some 46,.bin .eql (.t 45) (.c (.int .i64 0)),none⟩,
 ⟨some 47,.mv (.t 46),none⟩,
 ⟨some 48,.mv (.t 5),(some (47,true))⟩,
 ⟨some 49,.eqv .ptr true (.t 48) (.c (.pointer none)),(some (47,true))⟩,
 ⟨some 50,.pick (.t 47) (.t 49) (.c (.bool false)),none⟩,
 ⟨some 4,.mv (.t 50),none⟩] [4])
 .ret)
 .skip))
 ir_bandboxlaw13_DiskPlays_51)
def ir_bandboxlaw13_DiskPlays_15 : ACode := (.seq (.seq (.ops [
 ⟨some 15,.call 26 [],none⟩,
 ⟨some 16,.un .not (.t 15),none⟩] [0,1,16])
 (.cond (.t 16)
 (.seq (.ops [
 ⟨some 4,.mv (.c (.bool false)),none⟩] [4])
 .ret)
 .skip))
 (.seq (.ops [
 ⟨some 18,.mv (.t 0),none⟩,
 ⟨some 19,.call 27 [.t 18],none⟩,
 ⟨some 17,.mv (.t 19),none⟩,
 ⟨some 20,.ext (.t 17) 0,none⟩,
 ⟨some 21,.ext (.t 17) 1,none⟩,
 ⟨some 5,.mv (.t 20),none⟩,
 ⟨some 6,.mv (.t 21),none⟩] [0,1,5,6])
 (.seq (.seq (.ops [
 ⟨some 22,.mv (.t 0),none⟩,
 ⟨some 23,.bin .lss (.t 22) (.c (.int .i64 64)),none⟩,
 ⟨some 24,.mv (.t 23),none⟩,
 ⟨some 25,.mv (.t 0),(some (24,false))⟩,
 ⟨some 26,.bin .gtr (.t 25) (.c (.int .i64 1048576)),(some (24,false))⟩,
 ⟨some 27,.pick (.t 24) (.c (.bool true)) (.t 26),none⟩] [0,1,5,6,27])
 (.cond (.t 27)
 (.seq (.ops [
 ⟨some 28,.mv (.t 6),none⟩,
 ⟨some 29,.bin .eql (.t 28) (.c (.int .i64 1)),none⟩,
 ⟨some 30,.mv (.t 29),none⟩,
 ⟨some 31,.mv (.t 5),(some (30,true))⟩,
 ⟨some 32,.eqv .ptr false (.t 31) (.c (.pointer none)),(some (30,true))⟩,
 ⟨some 33,.pick (.t 30) (.t 32) (.c (.bool false)),none⟩,
 ⟨some 4,.mv (.t 33),none⟩] [4])
 .ret)
 .skip))
 ir_bandboxlaw13_DiskPlays_34)))
def ir_bandboxlaw13_DiskPlays : AFunc := ⟨2,205,[.tmp 4],
 (.seq (.ops [
 ⟨some 4,.mv (.c (.bool false)),none⟩] [0,1])
 ir_bandboxlaw13_DiskPlays_15)⟩

def h_disk_Disk_Rename : Hint := [(0,[0,1,2],[]),(1,[0,1,2,7],[]),(2,[0,1,2,7,16],[]),(3,[6],[]),(4,[0,1,2,8,9],[]),(5,[0,1,2,8,9,25],[]),(6,[6],[]),(7,[0,2,8],[]),(8,[],[]),(9,[6],[])]
def ir_disk_Disk_Rename_19 : ACode := (.seq (.ops [
 ⟨some 19,.mv (.t 0),none⟩,
 ⟨some 20,.mv (.t 1),none⟩,
 ⟨some 21,.call 57 [.t 19,.t 20],none⟩,
 ⟨some 18,.mv (.t 21),none⟩,
 ⟨some 22,.ext (.t 18) 0,none⟩,
 ⟨some 23,.ext (.t 18) 1,none⟩,
 ⟨some 8,.mv (.t 22),none⟩,
 ⟨some 9,.mv (.t 23),none⟩] [0,1,2,8,9])
 (.seq (.seq (.ops [
 ⟨some 24,.mv (.t 9),none⟩,
 ⟨some 25,.bin .neq (.t 24) (.c (.int .i64 0)),none⟩] [0,1,2,8,9,25])
 (.cond (.t 25)
 (.seq (.ops [
 ⟨some 26,.mv (.t 9),none⟩,
 ⟨some 6,.mv (.t 26),none⟩] [6])
 .ret)
 .skip))
 (.seq (.ops [
 ⟨some 27,.mv (.t 0),none⟩,
 ⟨some 28,.nilc (.t 27),none⟩,
 ⟨some 29,.faddr 1 (.t 28),none⟩,
 ⟨some 30,.load none (.t 29),none⟩,
 ⟨some 31,.mv (.t 1),none⟩,
 ⟨none,.mdel .str (.t 30) (.t 31),none⟩] [0,2,8])
 (.seq (.ops [
 ⟨some 32,.mv (.t 0),none⟩,
 ⟨some 33,.nilc (.t 32),none⟩,
 ⟨some 34,.faddr 1 (.t 33),none⟩,
 ⟨some 35,.load none (.t 34),none⟩,
 ⟨some 36,.mv (.t 2),none⟩,
 ⟨some 37,.mv (.t 8),none⟩,
 ⟨none,.mupd .str (.t 35) (.t 36) (.t 37),none⟩] [])
 (.seq (.ops [
 ⟨some 6,.mv (.c (.int .i64 0)),none⟩] [6])
 .ret)))))
def ir_disk_Disk_Rename : AFunc := ⟨3,38,[.tmp 6],
 (.seq (.ops [
 ⟨some 6,.mv (.c (.int .i64 0)),none⟩] [0,1,2])
 (.seq (.seq (.ops [
 ⟨some 10,.mv (.t 0),none⟩,
 ⟨some 11,.mv (.t 1),none⟩,
 ⟨some 12,.mv (.t 2),none⟩,
 ⟨some 13,.bslice 2 1 ([.string .empty]) [(0,1,.t 11),(1,1,.t 12)],none⟩,
 ⟨some 14,.call 53 [.t 10,.t 13],none⟩,
 ⟨some 7,.mv (.t 14),none⟩] [0,1,2,7])
 (.seq (.ops [
 ⟨some 15,.mv (.t 7),none⟩,
 ⟨some 16,.bin .neq (.t 15) (.c (.int .i64 0)),none⟩] [0,1,2,7,16])
 (.cond (.t 16)
 (.seq (.ops [
 ⟨some 17,.mv (.t 7),none⟩,
 ⟨some 6,.mv (.t 17),none⟩] [6])
 .ret)
 .skip)))
 ir_disk_Disk_Rename_19))⟩

def h_disk_Disk_Drop : Hint := [(0,[0,1],[]),(1,[0,1,6],[]),(2,[0,1,6,14],[]),(3,[6],[]),(4,[4],[])]
def ir_disk_Disk_Drop : AFunc := ⟨2,21,[.tmp 4],
 (.seq (.ops [
 ⟨some 4,.mv (.c (.int .i64 0)),none⟩] [0,1])
 (.seq (.ops [
 ⟨some 8,.mv (.t 0),none⟩,
 ⟨some 9,.mv (.t 1),none⟩,
 ⟨some 10,.call 57 [.t 8,.t 9],none⟩,
 ⟨some 7,.mv (.t 10),none⟩,
 ⟨some 11,.ext (.t 7) 0,none⟩,
 ⟨some 12,.ext (.t 7) 1,none⟩,
 ⟨some 5,.mv (.t 11),none⟩,
 ⟨some 6,.mv (.t 12),none⟩] [0,1,6])
 (.seq (.seq (.ops [
 ⟨some 13,.mv (.t 6),none⟩,
 ⟨some 14,.bin .eql (.t 13) (.c (.int .i64 0)),none⟩] [0,1,6,14])
 (.cond (.t 14)
 (.ops [
 ⟨some 15,.mv (.t 0),none⟩,
 ⟨some 16,.nilc (.t 15),none⟩,
 ⟨some 17,.faddr 1 (.t 16),none⟩,
 ⟨some 18,.load none (.t 17),none⟩,
 ⟨some 19,.mv (.t 1),none⟩,
 ⟨none,.mdel .str (.t 18) (.t 19),none⟩] [6])
 .skip))
 (.seq (.ops [
 ⟨some 20,.mv (.t 6),none⟩,
 ⟨some 4,.mv (.t 20),none⟩] [4])
 .ret))))⟩

def h_disk_Disk_Size : Hint := [(0,[0],[]),(1,[0,7],[]),(2,[2],[]),(3,[2],[])]
def ir_disk_Disk_Size : AFunc := ⟨1,10,[.tmp 2],
 (.seq (.ops [
 ⟨some 2,.mv (.c (.int .i64 0)),none⟩] [0])
 (.seq (.seq (.ops [
 ⟨some 3,.mv (.t 0),none⟩,
 ⟨some 4,.nilc (.t 3),none⟩,
 ⟨some 5,.faddr 2 (.t 4),none⟩,
 ⟨some 6,.load none (.t 5),none⟩,
 ⟨some 7,.un .not (.t 6),none⟩] [0,7])
 (.cond (.t 7)
 (.seq (.ops [
 ⟨some 2,.mv (.c (.int .i64 0)),none⟩] [2])
 .ret)
 .skip))
 (.seq (.ops [
 ⟨some 8,.mv (.t 0),none⟩,
 ⟨some 9,.call 54 [.t 8],none⟩,
 ⟨some 2,.mv (.t 9),none⟩] [2])
 .ret)))⟩

def h_bandboxref11_Disk_Append : Hint := [(0,[0,1,2],[]),(1,[0,1,2,7,8],[]),(2,[0,1,2,7,8,20],[]),(3,[6],[]),(4,[0,1,2,7,31],[(6,0),(7,0),(0,1),(1,1),(2,1),(3,1),(4,1),(5,1),(8,0),(9,0)]),(5,[6],[]),(6,[0,1,2,7,33],[]),(7,[0,2],[]),(8,[0,2,7],[]),(9,[],[(5,0),(6,0),(7,0),(8,0),(9,0),(10,0),(11,0),(12,0),(13,0),(14,0),(15,0),(16,1),(17,0),(18,0),(19,0),(0,3),(1,3),(2,3),(3,3),(4,3),(20,0),(21,0),(22,0)]),(10,[6],[])]
def ir_bandboxref11_Disk_Append_56 : ACode := (.seq (.dops [
 ⟨5,some 56,.bslice 0 1 ([.slice none 0 0]) [],none,0⟩,
 ⟨6,some 57,.mv (.t 0),none,0⟩,
 ⟨7,some 58,.nilc (.t 57),none,0⟩,
 ⟨8,some 59,.faddr 1 (.t 58),none,0⟩,
 ⟨9,some 60,.load none (.t 59),none,0⟩,
 ⟨10,some 61,.mv (.t 7),none,0⟩,
 ⟨11,some 62,.iaddrS 3 (.t 60) (.t 61),none,0⟩,
 ⟨12,some 63,.faddr 2 (.t 62),none,0⟩,
 ⟨13,some 64,.load none (.t 63),none,0⟩,
 ⟨14,some 65,.append 1 24 (.t 56) (.t 64),none,0⟩,
 ⟨15,some 66,.bslice 0 1 ([.int .u8 0]) [],none,0⟩,
 ⟨16,some 67,.mv (.t 2),none,1⟩,
 ⟨17,some 68,.append 1 1 (.t 66) (.t 67),none,0⟩,
 ⟨18,some 69,.bslice 1 1 ([.slice none 0 0]) [(0,1,.t 68)],none,0⟩,
 ⟨19,some 70,.append 1 24 (.t 65) (.t 69),none,0⟩,
 ⟨0,some 51,.mv (.t 0),none,3⟩,
 ⟨1,some 52,.nilc (.t 51),none,3⟩,
 ⟨2,some 53,.faddr 1 (.t 52),none,3⟩,
 ⟨3,some 54,.load none (.t 53),none,3⟩,
 ⟨4,some 55,.mv (.t 7),none,3⟩,
 ⟨20,some 71,.iaddrS 3 (.t 54) (.t 55),none,0⟩,
 ⟨21,some 72,.faddr 2 (.t 71),none,0⟩,
 ⟨22,none,.store 1 (.t 72) (.t 70),none,0⟩] [])
 (.seq (.ops [
 ⟨some 6,.mv (.c (.int .i64 0)),none⟩] [6])
 .ret))
def ir_bandboxref11_Disk_Append_32 : ACode := (.seq (.seq (.ops [
 ⟨some 32,.mv (.t 7),none⟩,
 ⟨some 33,.bin .lss (.t 32) (.c (.int .i64 0)),none⟩] [0,1,2,7,33])
 (.cond (.t 33)
 (.seq (.ops [
 ⟨some 34,.mv (.t 0),none⟩,
 ⟨some 35,.mv (.t 0),none⟩,
 ⟨some 36,.nilc (.t 35),none⟩,
 ⟨some 37,.faddr 1 (.t 36),none⟩,
 ⟨some 38,.load none (.t 37),none⟩,
 ⟨some 39,.mv (.t 1),none⟩,
 ⟨some 40,.build ([.string .empty,.slice none 0 0,.slice none 0 0]) [(0,1,.t 39)],none⟩,
 ⟨some 41,.bslice 1 3 ([.string .empty,.slice none 0 0,.slice none 0 0]) [(0,3,.t 40)],none⟩,
 ⟨some 42,.append 3 64 (.t 38) (.t 41),none⟩,
 ⟨some 43,.nilc (.t 34),none⟩,
 ⟨some 44,.faddr 1 (.t 43),none⟩,
 ⟨none,.store 1 (.t 44) (.t 42),none⟩] [0,2])
 (.ops [
 ⟨some 45,.mv (.t 0),none⟩,
 ⟨some 46,.nilc (.t 45),none⟩,
 ⟨some 47,.faddr 1 (.t 46),none⟩,
 ⟨some 48,.load none (.t 47),none⟩,
 ⟨some 49,.lenS (.t 48),none⟩,
 ⟨some 50,.bin .sub (.t 49) (.c (.int .i64 1)),none⟩,
 ⟨some 7,.mv (.t 50),none⟩] [0,2,7]))
 .skip))
 ir_bandboxref11_Disk_Append_56)
def ir_bandboxref11_Disk_Append_15 : ACode := (.seq (.seq (.ops [
 ⟨some 15,.mv (.t 8),none⟩,
 ⟨some 16,.bin .neq (.t 15) (.c (.int .i64 0)),none⟩,
 ⟨some 17,.mv (.t 16),none⟩,
 ⟨some 18,.mv (.t 8),(some (17,true))⟩,
 ⟨some 19,.bin .neq (.t 18) (.c (.int .i64 4)),(some (17,true))⟩,
 ⟨some 20,.pick (.t 17) (.t 19) (.c (.bool false)),none⟩] [0,1,2,7,8,20])
 (.cond (.t 20)
 (.seq (.ops [
 ⟨some 21,.mv (.t 8),none⟩,
 ⟨some 6,.mv (.t 21),none⟩] [6])
 .ret)
 .skip))
 (.seq (.seq (.dops [
 ⟨6,some 28,.mv (.t 0),none,0⟩,
 ⟨7,some 29,.call 113 [.t 28],none,0⟩,
 ⟨0,some 22,.mv (.t 2),none,1⟩,
 ⟨1,some 23,.lenS (.t 22),none,1⟩,
 ⟨2,some 24,.mv (.t 0),none,1⟩,
 ⟨3,some 25,.nilc (.t 24),none,1⟩,
 ⟨4,some 26,.faddr 0 (.t 25),none,1⟩,
 ⟨5,some 27,.load none (.t 26),none,1⟩,
 ⟨8,some 30,.bin .sub (.t 27) (.t 29),none,0⟩,
 ⟨9,some 31,.bin .gtr (.t 23) (.t 30),none,0⟩] [0,1,2,7,31])
 (.cond (.t 31)
 (.seq (.ops [
 ⟨some 6,.mv (.c (.int .i64 6)),none⟩] [6])
 .ret)
 .skip))
 ir_bandboxref11_Disk_Append_32))
def ir_bandboxref11_Disk_Append : AFunc := ⟨3,73,[.tmp 6],
 (.seq (.ops [
 ⟨some 6,.mv (.c (.int .i64 0)),none⟩] [0,1,2])
 (.seq (.ops [
 ⟨some 10,.mv (.t 0),none⟩,
 ⟨some 11,.mv (.t 1),none⟩,
 ⟨some 12,.call 121 [.t 10,.t 11],none⟩,
 ⟨some 9,.mv (.t 12),none⟩,
 ⟨some 13,.ext (.t 9) 0,none⟩,
 ⟨some 14,.ext (.t 9) 1,none⟩,
 ⟨some 7,.mv (.t 13),none⟩,
 ⟨some 8,.mv (.t 14),none⟩] [0,1,2,7,8])
 ir_bandboxref11_Disk_Append_15))⟩

def h_bandboxref11_Disk_Sync : Hint := [(0,[0,1],[]),(1,[0,1,5,6],[]),(2,[0,1,5,6,14],[]),(3,[6],[(6,0),(7,0),(8,0),(9,0),(10,0),(11,0),(12,0),(13,0),(0,1),(1,1),(2,1),(3,1),(4,1),(5,1),(14,0),(15,0),(16,0)]),(4,[4],[])]
def ir_bandboxref11_Disk_Sync_13 : ACode := (.seq (.seq (.ops [
 ⟨some 13,.mv (.t 6),none⟩,
 ⟨some 14,.bin .eql (.t 13) (.c (.int .i64 0)),none⟩] [0,1,5,6,14])
 (.cond (.t 14)
 (.dops [
 ⟨6,some 21,.mv (.t 0),none,0⟩,
 ⟨7,some 22,.nilc (.t 21),none,0⟩,
 ⟨8,some 23,.faddr 1 (.t 22),none,0⟩,
 ⟨9,some 24,.load none (.t 23),none,0⟩,
 ⟨10,some 25,.mv (.t 5),none,0⟩,
 ⟨11,some 26,.iaddrS 3 (.t 24) (.t 25),none,0⟩,
 ⟨12,some 27,.load (some 3) (.t 26),none,0⟩,
 ⟨13,some 28,.call 122 [.t 27],none,0⟩,
 ⟨0,some 15,.mv (.t 0),none,1⟩,
 ⟨1,some 16,.nilc (.t 15),none,1⟩,
 ⟨2,some 17,.faddr 1 (.t 16),none,1⟩,
 ⟨3,some 18,.load none (.t 17),none,1⟩,
 ⟨4,some 19,.mv (.t 5),none,1⟩,
 ⟨5,some 20,.mv (.t 1),none,1⟩,
 ⟨14,some 29,.build ([.string .empty,.slice none 0 0,.slice none 0 0]) [(0,1,.t 20),(1,1,.t 28)],none,0⟩,
 ⟨15,some 30,.iaddrS 3 (.t 18) (.t 19),none,0⟩,
 ⟨16,none,.store 3 (.t 30) (.t 29),none,0⟩] [6])
 .skip))
 (.seq (.ops [
 ⟨some 31,.mv (.t 6),none⟩,
 ⟨some 4,.mv (.t 31),none⟩] [4])
 .ret))
def ir_bandboxref11_Disk_Sync : AFunc := ⟨2,32,[.tmp 4],
 (.seq (.ops [
 ⟨some 4,.mv (.c (.int .i64 0)),none⟩] [0,1])
 (.seq (.ops [
 ⟨some 8,.mv (.t 0),none⟩,
 ⟨some 9,.mv (.t 1),none⟩,
 ⟨some 10,.call 121 [.t 8,.t 9],none⟩,
 ⟨some 7,.mv (.t 10),none⟩,
 ⟨some 11,.ext (.t 7) 0,none⟩,
 ⟨some 12,.ext (.t 7) 1,none⟩,
 ⟨some 5,.mv (.t 11),none⟩,
 ⟨some 6,.mv (.t 12),none⟩] [0,1,5,6])
 ir_bandboxref11_Disk_Sync_13))⟩

def h_bandboxref11_Disk_Rename : Hint := [(0,[0,1,2],[]),(1,[0,1,2,13],[]),(2,[6],[]),(3,[0,1,2,21],[]),(4,[6],[]),(5,[0,1,2,7],[]),(6,[0,1,2,7,26],[]),(7,[6],[]),(8,[0,2,7,29],[]),(9,[6],[]),(10,[0,2,7,8],[]),(11,[0,2,8],[]),(12,[0,2,8,9],[]),(13,[0,2,8,9,44],[]),(14,[0,2,8],[]),(15,[0,8],[]),(16,[],[(1,0),(2,0),(3,0),(4,0),(5,0),(6,0),(7,0),(0,1),(8,0),(9,0),(10,0)]),(17,[6],[])]
def ir_bandboxref11_Disk_Rename_40 : ACode := (.seq (.ops [
 ⟨some 40,.mv (.t 0),none⟩,
 ⟨some 41,.mv (.t 2),none⟩,
 ⟨some 42,.call 124 [.t 40,.t 41],none⟩,
 ⟨some 9,.mv (.t 42),none⟩] [0,2,8,9])
 (.seq (.seq (.ops [
 ⟨some 43,.mv (.t 9),none⟩,
 ⟨some 44,.bin .geq (.t 43) (.c (.int .i64 0)),none⟩] [0,2,8,9,44])
 (.cond (.t 44)
 (.ops [
 ⟨some 45,.mv (.t 0),none⟩,
 ⟨some 46,.mv (.t 9),none⟩,
 ⟨some 47,.call 125 [.t 45,.t 46],none⟩] [0,2,8])
 .skip))
 (.seq (.ops [
 ⟨some 48,.mv (.t 2),none⟩,
 ⟨some 49,.faddr 0 (.t 8),none⟩,
 ⟨none,.store 1 (.t 49) (.t 48),none⟩] [0,8])
 (.seq (.dops [
 ⟨1,some 51,.mv (.t 0),none,0⟩,
 ⟨2,some 52,.nilc (.t 51),none,0⟩,
 ⟨3,some 53,.faddr 1 (.t 52),none,0⟩,
 ⟨4,some 54,.load none (.t 53),none,0⟩,
 ⟨5,some 55,.load (some 3) (.t 8),none,0⟩,
 ⟨6,some 56,.bslice 1 3 ([.string .empty,.slice none 0 0,.slice none 0 0]) [(0,3,.t 55)],none,0⟩,
 ⟨7,some 57,.append 3 64 (.t 54) (.t 56),none,0⟩,
 ⟨0,some 50,.mv (.t 0),none,1⟩,
 ⟨8,some 58,.nilc (.t 50),none,0⟩,
 ⟨9,some 59,.faddr 1 (.t 58),none,0⟩,
 ⟨10,none,.store 1 (.t 59) (.t 57),none,0⟩] [])
 (.seq (.ops [
 ⟨some 6,.mv (.c (.int .i64 0)),none⟩] [6])
 .ret)))))
def ir_bandboxref11_Disk_Rename_22 : ACode := (.seq (.ops [
 ⟨some 22,.mv (.t 0),none⟩,
 ⟨some 23,.mv (.t 1),none⟩,
 ⟨some 24,.call 124 [.t 22,.t 23],none⟩,
 ⟨some 7,.mv (.t 24),none⟩] [0,1,2,7])
 (.seq (.seq (.ops [
 ⟨some 25,.mv (.t 7),none⟩,
 ⟨some 26,.bin .lss (.t 25) (.c (.int .i64 0)),none⟩] [0,1,2,7,26])
 (.cond (.t 26)
 (.seq (.ops [
 ⟨some 6,.mv (.c (.int .i64 4)),none⟩] [6])
 .ret)
 .skip))
 (.seq (.seq (.ops [
 ⟨some 27,.mv (.t 1),none⟩,
 ⟨some 28,.mv (.t 2),none⟩,
 ⟨some 29,.bin .eql (.t 27) (.t 28),none⟩] [0,2,7,29])
 (.cond (.t 29)
 (.seq (.ops [
 ⟨some 6,.mv (.c (.int .i64 0)),none⟩] [6])
 .ret)
 .skip))
 (.seq (.ops [
 ⟨some 30,.mv (.t 0),none⟩,
 ⟨some 31,.nilc (.t 30),none⟩,
 ⟨some 32,.faddr 1 (.t 31),none⟩,
 ⟨some 33,.load none (.t 32),none⟩,
 ⟨some 34,.mv (.t 7),none⟩,
 ⟨some 35,.iaddrS 3 (.t 33) (.t 34),none⟩,
 ⟨some 36,.load (some 3) (.t 35),none⟩,
 ⟨some 8,.alloc ([.string .empty,.slice none 0 0,.slice none 0 0]),none⟩,
 ⟨none,.store 3 (.t 8) (.t 36),none⟩] [0,2,7,8])
 (.seq (.ops [
 ⟨some 37,.mv (.t 0),none⟩,
 ⟨some 38,.mv (.t 7),none⟩,
 ⟨some 39,.call 125 [.t 37,.t 38],none⟩] [0,2,8])
 ir_bandboxref11_Disk_Rename_40)))))
def ir_bandboxref11_Disk_Rename : AFunc := ⟨3,60,[.tmp 6],
 (.seq (.ops [
 ⟨some 6,.mv (.c (.int .i64 0)),none⟩] [0,1,2])
 (.seq (.seq (.ops [
 ⟨some 10,.mv (.t 0),none⟩,
 ⟨some 11,.nilc (.t 10),none⟩,
 ⟨some 12,.faddr 2 (.t 11),none⟩,
 ⟨some 13,.load none (.t 12),none⟩] [0,1,2,13])
 (.cond (.t 13)
 (.seq (.ops [
 ⟨some 6,.mv (.c (.int .i64 7)),none⟩] [6])
 .ret)
 .skip))
 (.seq (.seq (.ops [
 ⟨some 14,.mv (.t 1),none⟩,
 ⟨some 15,.call 123 [.t 14],none⟩,
 ⟨some 16,.un .not (.t 15),none⟩,
 ⟨some 17,.mv (.t 16),none⟩,
 ⟨some 18,.mv (.t 2),(some (17,false))⟩,
 ⟨some 19,.call 123 [.t 18],(some (17,false))⟩,
 ⟨some 20,.un .not (.t 19),(some (17,false))⟩,
 ⟨some 21,.pick (.t 17) (.c (.bool true)) (.t 20),none⟩] [0,1,2,21])
 (.cond (.t 21)
 (.seq (.ops [
 ⟨some 6,.mv (.c (.int .i64 1)),none⟩] [6])
 .ret)
 .skip))
 ir_bandboxref11_Disk_Rename_22)))⟩

def h_bandboxref11_Disk_Drop : Hint := [(0,[0,1],[]),(1,[0,5,6],[]),(2,[0,5,6,14],[]),(3,[6],[]),(4,[4],[])]
def ir_bandboxref11_Disk_Drop : AFunc := ⟨2,19,[.tmp 4],
 (.seq (.ops [
 ⟨some 4,.mv (.c (.int .i64 0)),none⟩] [0,1])
 (.seq (.ops [
 ⟨some 8,.mv (.t 0),none⟩,
 ⟨some 9,.mv (.t 1),none⟩,
 ⟨some 10,.call 121 [.t 8,.t 9],none⟩,
 ⟨some 7,.mv (.t 10),none⟩,
 ⟨some 11,.ext (.t 7) 0,none⟩,
 ⟨some 12,.ext (.t 7) 1,none⟩,
 ⟨some 5,.mv (.t 11),none⟩,
 ⟨some 6,.mv (.t 12),none⟩] [0,5,6])
 (.seq (.seq (.ops [
 ⟨some 13,.mv (.t 6),none⟩,
 ⟨some 14,.bin .eql (.t 13) (.c (.int .i64 0)),none⟩] [0,5,6,14])
 (.cond (.t 14)
 (.ops [
 ⟨some 15,.mv (.t 0),none⟩,
 ⟨some 16,.mv (.t 5),none⟩,
 ⟨some 17,.call 125 [.t 15,.t 16],none⟩] [6])
 .skip))
 (.seq (.ops [
 ⟨some 18,.mv (.t 6),none⟩,
 ⟨some 4,.mv (.t 18),none⟩] [4])
 .ret))))⟩

def h_bandboxref11_Disk_Crash : Hint := [(0,[0,1,2],[]),(1,[0,1,2,6],[]),(2,[0,1,2,6,22],[]),(3,[0,1,2,6],[]),(4,[0,1,2,6,7],[]),(5,[0,1,2,6,7,8],[]),(6,[0,1,2,6,7,8,9],[]),(7,[0,1,2,6,7,8,9,36],[]),(8,[0,1,2,6,7,8,9],[]),(9,[0,1,2,6,7,8,9,41],[]),(10,[0,1,2,6,7,8,9],[]),(11,[0,1,2,6,7,8,10],[]),(12,[0,1,2,6,7,8,10,11],[]),(13,[0,1,2,6,7,8,10,11,49],[]),(14,[0,1,2,6,7,8,10,11],[]),(15,[0,1,2,6,7,8,10,11,12],[]),(16,[0,1,2,6,7,8,10,11,12,62],[]),(17,[0,1,2,6,7,8,10,11,12],[]),(18,[0,1,2,6,7,8,10,11,12,72],[]),(19,[0,1,2,6,7,8,10,11,12,76],[]),(20,[0,1,2,6,7,8,10,11,12],[]),(21,[0,1,2,6,7,8,10,11,12],[]),(22,[0,1,2,6,7,8,10,11],[]),(23,[0,1,2,6],[(0,0),(1,0),(2,0),(3,0),(4,0),(5,0),(6,0),(7,0),(8,0),(9,0),(10,0)])]
def ir_bandboxref11_Disk_Crash_66 : ACode := (.seq (.seq (.ops [
 ⟨some 66,.mv (.t 11),none⟩,
 ⟨some 67,.mv (.t 8),none⟩,
 ⟨some 68,.bin .eql (.t 66) (.t 67),none⟩,
 ⟨some 69,.mv (.t 68),none⟩,
 ⟨some 70,.mv (.t 2),(some (69,true))⟩,
 ⟨some 71,.bin .gtr (.t 70) (.c (.int .i64 0)),(some (69,true))⟩,
 ⟨some 72,.pick (.t 69) (.t 71) (.c (.bool false)),none⟩] [0,1,2,6,7,8,10,11,12,72])
 (.cond (.t 72)
 (.seq (.ops [
 ⟨some 73,.mv (.t 2),none⟩,
 ⟨some 74,.mv (.t 12),none⟩,
 ⟨some 75,.lenS (.t 74),none⟩,
 ⟨some 76,.bin .gtr (.t 73) (.t 75),none⟩] [0,1,2,6,7,8,10,11,12,76])
 (.cond (.t 76)
 (.ops [
 ⟨some 12,.mv (.c (.slice none 0 0)),none⟩] [0,1,2,6,7,8,10,11,12])
 (.ops [
 ⟨some 77,.mv (.t 12),none⟩,
 ⟨some 78,.mv (.t 12),none⟩,
 ⟨some 79,.lenS (.t 78),none⟩,
 ⟨some 80,.mv (.t 2),none⟩,
 ⟨some 81,.bin .sub (.t 79) (.t 80),none⟩,
 ⟨some 82,.slSl 1 (.t 77) none (some (.t 81)) none,none⟩,
 ⟨some 12,.mv (.t 82),none⟩] [0,1,2,6,7,8,10,11,12])))
 .skip))
 (.ops [
 ⟨some 83,.mv (.t 10),none⟩,
 ⟨some 84,.mv (.t 12),none⟩,
 ⟨some 85,.append 1 1 (.t 83) (.t 84),none⟩,
 ⟨some 10,.mv (.t 85),none⟩] [0,1,2,6,7,8,10,11]))
def ir_bandboxref11_Disk_Crash_52 : ACode := (.seq (.block 5 (.seq (.ops [
 ⟨some 52,.bslice 0 1 ([.int .u8 0]) [],none⟩,
 ⟨some 53,.faddr 2 (.t 7),none⟩,
 ⟨some 54,.load none (.t 53),none⟩,
 ⟨some 55,.mv (.t 11),none⟩,
 ⟨some 56,.iaddrS 1 (.t 54) (.t 55),none⟩,
 ⟨some 57,.load none (.t 56),none⟩,
 ⟨some 58,.append 1 1 (.t 52) (.t 57),none⟩,
 ⟨some 12,.mv (.t 58),none⟩] [0,1,2,6,7,8,10,11,12])
 (.seq (.seq (.ops [
 ⟨some 59,.mv (.t 1),none⟩,
 ⟨some 60,.mv (.t 11),none⟩,
 ⟨some 61,.call 126 [.t 59,.t 60],none⟩,
 ⟨some 62,.un .not (.t 61),none⟩] [0,1,2,6,7,8,10,11,12,62])
 (.cond (.t 62)
 (.ops [
 ⟨some 63,.mv (.t 12),none⟩,
 ⟨some 64,.lenS (.t 63),none⟩,
 ⟨some 65,.mslice 1 ([.int .u8 0]) (.t 64) (.t 64),none⟩,
 ⟨some 12,.mv (.t 65),none⟩] [0,1,2,6,7,8,10,11,12])
 .skip))
 ir_bandboxref11_Disk_Crash_66)))
 (.ops [
 ⟨some 50,.mv (.t 11),none⟩,
 ⟨some 51,.bin .add (.t 50) (.c (.int .i64 1)),none⟩,
 ⟨some 11,.mv (.t 51),none⟩] [0,1,2,6,7,8,10,11]))
def ir_bandboxref11_Disk_Crash_86 : ACode := (.dops [
 ⟨0,some 86,.mv (.t 0),none,0⟩,
 ⟨1,some 87,.nilc (.t 86),none,0⟩,
 ⟨2,some 88,.faddr 1 (.t 87),none,0⟩,
 ⟨3,some 89,.load none (.t 88),none,0⟩,
 ⟨4,some 90,.mv (.t 6),none,0⟩,
 ⟨5,some 91,.faddr 0 (.t 7),none,0⟩,
 ⟨6,some 92,.load none (.t 91),none,0⟩,
 ⟨7,some 93,.mv (.t 10),none,0⟩,
 ⟨8,some 94,.build ([.string .empty,.slice none 0 0,.slice none 0 0]) [(0,1,.t 92),(1,1,.t 93)],none,0⟩,
 ⟨9,some 95,.iaddrS 3 (.t 89) (.t 90),none,0⟩,
 ⟨10,none,.store 3 (.t 95) (.t 94),none,0⟩] [0,1,2,6])
def ir_bandboxref11_Disk_Crash_43 : ACode := (.seq (.ops [
 ⟨some 43,.bslice 0 1 ([.int .u8 0]) [],none⟩,
 ⟨some 44,.faddr 1 (.t 7),none⟩,
 ⟨some 45,.load none (.t 44),none⟩,
 ⟨some 46,.append 1 1 (.t 43) (.t 45),none⟩,
 ⟨some 10,.mv (.t 46),none⟩] [0,1,2,6,7,8,10])
 (.seq (.seq (.ops [
 ⟨some 11,.mv (.c (.int .i64 0)),none⟩] [0,1,2,6,7,8,10,11])
 (.block 4 (.loop (.seq (.seq (.ops [
 ⟨some 47,.mv (.t 11),none⟩,
 ⟨some 48,.mv (.t 8),none⟩,
 ⟨some 49,.bin .leq (.t 47) (.t 48),none⟩] [0,1,2,6,7,8,10,11,49])
 (.cond (.t 49)
 .skip
 (.exit 4)))
 ir_bandboxref11_Disk_Crash_52))))
 ir_bandboxref11_Disk_Crash_86))
def ir_bandboxref11_Disk_Crash_8 : ACode := (.seq (.ops [
 ⟨some 8,.mv (.c (.int .i64 (-1))),none⟩] [0,1,2,6,7,8])
 (.seq (.seq (.ops [
 ⟨some 9,.mv (.c (.int .i64 0)),none⟩] [0,1,2,6,7,8,9])
 (.block 2 (.loop (.seq (.seq (.ops [
 ⟨some 32,.mv (.t 9),none⟩,
 ⟨some 33,.faddr 2 (.t 7),none⟩,
 ⟨some 34,.load none (.t 33),none⟩,
 ⟨some 35,.lenS (.t 34),none⟩,
 ⟨some 36,.bin .lss (.t 32) (.t 35),none⟩] [0,1,2,6,7,8,9,36])
 (.cond (.t 36)
 .skip
 (.exit 2)))
 (.seq (.block 3 (.seq (.ops [
 ⟨some 39,.mv (.t 1),none⟩,
 ⟨some 40,.mv (.t 9),none⟩,
 ⟨some 41,.call 126 [.t 39,.t 40],none⟩] [0,1,2,6,7,8,9,41])
 (.cond (.t 41)
 (.ops [
 ⟨some 42,.mv (.t 9),none⟩,
 ⟨some 8,.mv (.t 42),none⟩] [0,1,2,6,7,8,9])
 .skip)))
 (.ops [
 ⟨some 37,.mv (.t 9),none⟩,
 ⟨some 38,.bin .add (.t 37) (.c (.int .i64 1)),none⟩,
 ⟨some 9,.mv (.t 38),none⟩] [0,1,2,6,7,8,9]))))))
 ir_bandboxref11_Disk_Crash_43))
def ir_bandboxref11_Disk_Crash_6 : ACode := (.seq (.ops [
 ⟨some 6,.mv (.c (.int .i64 0)),none⟩] [0,1,2,6])
 (.block 0 (.loop (.seq (.seq (.ops [
 ⟨some 16,.mv (.t 6),none⟩,
 ⟨some 17,.mv (.t 0),none⟩,
 ⟨some 18,.nilc (.t 17),none⟩,
 ⟨some 19,.faddr 1 (.t 18),none⟩,
 ⟨some 20,.load none (.t 19),none⟩,
 ⟨some 21,.lenS (.t 20),none⟩,
 ⟨some 22,.bin .lss (.t 16) (.t 21),none⟩] [0,1,2,6,22])
 (.cond (.t 22)
 .skip
 (.exit 0)))
 (.seq (.block 1 (.seq (.ops [
 ⟨some 25,.mv (.t 0),none⟩,
 ⟨some 26,.nilc (.t 25),none⟩,
 ⟨some 27,.faddr 1 (.t 26),none⟩,
 ⟨some 28,.load none (.t 27),none⟩,
 ⟨some 29,.mv (.t 6),none⟩,
 ⟨some 30,.iaddrS 3 (.t 28) (.t 29),none⟩,
 ⟨some 31,.load (some 3) (.t 30),none⟩,
 ⟨some 7,.alloc ([.string .empty,.slice none 0 0,.slice none 0 0]),none⟩,
 ⟨none,.store 3 (.t 7) (.t 31),none⟩] [0,1,2,6,7])
 ir_bandboxref11_Disk_Crash_8))
 (.ops [
 ⟨some 23,.mv (.t 6),none⟩,
 ⟨some 24,.bin .add (.t 23) (.c (.int .i64 1)),none⟩,
 ⟨some 6,.mv (.t 24),none⟩] [0,1,2,6]))))))
def ir_bandboxref11_Disk_Crash : AFunc := ⟨3,96,[],
 (.seq (.ops [
 ⟨some 13,.mv (.t 0),none⟩,
 ⟨some 14,.nilc (.t 13),none⟩,
 ⟨some 15,.faddr 2 (.t 14),none⟩,
 ⟨none,.store 1 (.t 15) (.c (.bool true)),none⟩] [0,1,2])
 ir_bandboxref11_Disk_Crash_6)⟩

def h_bandboxref11_Disk_On : Hint := [(0,[0],[]),(1,[],[])]
def ir_bandboxref11_Disk_On : AFunc := ⟨1,12,[],
 (.seq (.ops [
 ⟨some 2,.mv (.t 0),none⟩,
 ⟨some 3,.nilc (.t 2),none⟩,
 ⟨some 4,.faddr 2 (.t 3),none⟩,
 ⟨none,.store 1 (.t 4) (.c (.bool false)),none⟩] [0])
 (.ops [
 ⟨some 5,.mv (.t 0),none⟩,
 ⟨some 6,.nilc (.t 5),none⟩,
 ⟨some 7,.faddr 3 (.t 6),none⟩,
 ⟨some 8,.load none (.t 7),none⟩,
 ⟨some 9,.bin .add (.t 8) (.c (.int .i64 1)),none⟩,
 ⟨some 10,.nilc (.t 5),none⟩,
 ⟨some 11,.faddr 3 (.t 10),none⟩,
 ⟨none,.store 1 (.t 11) (.t 9),none⟩] []))⟩

def h_bandboxref11_Disk_Read : Hint := [(0,[0,1],[]),(1,[0,6,7],[]),(2,[0,6,7,15],[]),(3,[4,5],[]),(4,[4,5],[])]
def ir_bandboxref11_Disk_Read : AFunc := ⟨2,25,[.tmp 4,.tmp 5],
 (.seq (.ops [
 ⟨some 4,.mv (.c (.slice none 0 0)),none⟩,
 ⟨some 5,.mv (.c (.int .i64 0)),none⟩] [0,1])
 (.seq (.ops [
 ⟨some 9,.mv (.t 0),none⟩,
 ⟨some 10,.mv (.t 1),none⟩,
 ⟨some 11,.call 121 [.t 9,.t 10],none⟩,
 ⟨some 8,.mv (.t 11),none⟩,
 ⟨some 12,.ext (.t 8) 0,none⟩,
 ⟨some 13,.ext (.t 8) 1,none⟩,
 ⟨some 6,.mv (.t 12),none⟩,
 ⟨some 7,.mv (.t 13),none⟩] [0,6,7])
 (.seq (.seq (.ops [
 ⟨some 14,.mv (.t 7),none⟩,
 ⟨some 15,.bin .neq (.t 14) (.c (.int .i64 0)),none⟩] [0,6,7,15])
 (.cond (.t 15)
 (.seq (.ops [
 ⟨some 16,.mv (.t 7),none⟩,
 ⟨some 4,.mv (.c (.slice none 0 0)),none⟩,
 ⟨some 5,.mv (.t 16),none⟩] [4,5])
 .ret)
 .skip))
 (.seq (.ops [
 ⟨some 17,.mv (.t 0),none⟩,
 ⟨some 18,.nilc (.t 17),none⟩,
 ⟨some 19,.faddr 1 (.t 18),none⟩,
 ⟨some 20,.load none (.t 19),none⟩,
 ⟨some 21,.mv (.t 6),none⟩,
 ⟨some 22,.iaddrS 3 (.t 20) (.t 21),none⟩,
 ⟨some 23,.load (some 3) (.t 22),none⟩,
 ⟨some 24,.call 122 [.t 23],none⟩,
 ⟨some 4,.mv (.t 24),none⟩,
 ⟨some 5,.mv (.c (.int .i64 0)),none⟩] [4,5])
 .ret))))⟩

def h_bandboxref11_Disk_Size : Hint := [(0,[0],[]),(1,[0,3],[]),(2,[0,3,4],[]),(3,[0,3,4,18],[]),(4,[0,3,4],[]),(5,[0,3,4],[]),(6,[2],[])]
def ir_bandboxref11_Disk_Size_21 : ACode := (.seq (.block 1 (.ops [
 ⟨some 21,.mv (.t 3),none⟩,
 ⟨some 22,.mv (.t 0),none⟩,
 ⟨some 23,.nilc (.t 22),none⟩,
 ⟨some 24,.faddr 1 (.t 23),none⟩,
 ⟨some 25,.load none (.t 24),none⟩,
 ⟨some 26,.mv (.t 4),none⟩,
 ⟨some 27,.iaddrS 3 (.t 25) (.t 26),none⟩,
 ⟨some 28,.load (some 3) (.t 27),none⟩,
 ⟨some 29,.call 122 [.t 28],none⟩,
 ⟨some 30,.lenS (.t 29),none⟩,
 ⟨some 31,.bin .add (.t 21) (.t 30),none⟩,
 ⟨some 3,.mv (.t 31),none⟩] [0,3,4]))
 (.ops [
 ⟨some 19,.mv (.t 4),none⟩,
 ⟨some 20,.bin .add (.t 19) (.c (.int .i64 1)),none⟩,
 ⟨some 4,.mv (.t 20),none⟩] [0,3,4]))
def ir_bandboxref11_Disk_Size : AFunc := ⟨1,33,[.tmp 2],
 (.seq (.ops [
 ⟨some 2,.mv (.c (.int .i64 0)),none⟩] [0])
 (.seq (.ops [
 ⟨some 3,.mv (.c (.int .i64 0)),none⟩] [0,3])
 (.seq (.seq (.ops [
 ⟨some 4,.mv (.c (.int .i64 0)),none⟩] [0,3,4])
 (.block 0 (.loop (.seq (.seq (.ops [
 ⟨some 5,.mv (.t 4),none⟩,
 ⟨some 6,.mv (.t 0),none⟩,
 ⟨some 7,.nilc (.t 6),none⟩,
 ⟨some 8,.faddr 1 (.t 7),none⟩,
 ⟨some 9,.load none (.t 8),none⟩,
 ⟨some 10,.lenS (.t 9),none⟩,
 ⟨some 11,.bin .lss (.t 5) (.t 10),none⟩,
 ⟨some 12,.mv (.t 11),none⟩,
 ⟨some 13,.mv (.t 0),(some (12,true))⟩,
 ⟨some 14,.nilc (.t 13),(some (12,true))⟩,
 ⟨some 15,.faddr 2 (.t 14),(some (12,true))⟩,
 ⟨some 16,.load none (.t 15),(some (12,true))⟩,
 ⟨some 17,.un .not (.t 16),(some (12,true))⟩,
 ⟨some 18,.pick (.t 12) (.t 17) (.c (.bool false)),none⟩] [0,3,4,18])
 (.cond (.t 18)
 .skip
 (.exit 0)))
 ir_bandboxref11_Disk_Size_21))))
 (.seq (.ops [
 ⟨some 32,.mv (.t 3),none⟩,
 ⟨some 2,.mv (.t 32),none⟩] [2])
 .ret))))⟩

def h_bandboxref11_Disk_ask : Hint := [(0,[0,1],[]),(1,[0,1,10],[]),(2,[4,5],[]),(3,[0,1,13],[]),(4,[4,5],[]),(5,[6],[]),(6,[6,18],[]),(7,[4,5],[]),(8,[4,5],[])]
def ir_bandboxref11_Disk_ask_7 : ACode := (.seq (.seq (.ops [
 ⟨some 7,.mv (.t 0),none⟩,
 ⟨some 8,.nilc (.t 7),none⟩,
 ⟨some 9,.faddr 2 (.t 8),none⟩,
 ⟨some 10,.load none (.t 9),none⟩] [0,1,10])
 (.cond (.t 10)
 (.seq (.ops [
 ⟨some 4,.mv (.c (.int .i64 (-1))),none⟩,
 ⟨some 5,.mv (.c (.int .i64 7)),none⟩] [4,5])
 .ret)
 .skip))
 (.seq (.seq (.ops [
 ⟨some 11,.mv (.t 1),none⟩,
 ⟨some 12,.call 123 [.t 11],none⟩,
 ⟨some 13,.un .not (.t 12),none⟩] [0,1,13])
 (.cond (.t 13)
 (.seq (.ops [
 ⟨some 4,.mv (.c (.int .i64 (-1))),none⟩,
 ⟨some 5,.mv (.c (.int .i64 1)),none⟩] [4,5])
 .ret)
 .skip))
 (.seq (.ops [
 ⟨some 14,.mv (.t 0),none⟩,
 ⟨some 15,.mv (.t 1),none⟩,
 ⟨some 16,.call 124 [.t 14,.t 15],none⟩,
 ⟨some 6,.mv (.t 16),none⟩] [6])
 (.seq (.seq (.ops [
 ⟨some 17,.mv (.t 6),none⟩,
 ⟨some 18,.bin .lss (.t 17) (.c (.int .i64 0)),none⟩] [6,18])
 (.cond (.t 18)
 (.seq (.ops [
 ⟨some 4,.mv (.c (.int .i64 (-1))),none⟩,
 ⟨some 5,.mv (.c (.int .i64 4)),none⟩] [4,5])
 .ret)
 .skip))
 (.seq (.ops [
 ⟨some 19,.mv (.t 6),none⟩,
 ⟨some 4,.mv (.t 19),none⟩,
 ⟨some 5,.mv (.c (.int .i64 0)),none⟩] [4,5])
 .ret)))))
def ir_bandboxref11_Disk_ask : AFunc := ⟨2,20,[.tmp 4,.tmp 5],
 (.seq (.ops [
 ⟨some 4,.mv (.c (.int .i64 0)),none⟩,
 ⟨some 5,.mv (.c (.int .i64 0)),none⟩] [0,1])
 ir_bandboxref11_Disk_ask_7)⟩

def h_bandboxref11_File_all : Hint := [(0,[1],[]),(1,[1,3],[]),(2,[1,3,4],[]),(3,[1,3,4,13],[]),(4,[1,3,4],[]),(5,[1,3,4],[]),(6,[2],[])]
def ir_bandboxref11_File_all_5 : ACode := (.seq (.ops [
 ⟨some 5,.bslice 0 1 ([.int .u8 0]) [],none⟩,
 ⟨some 6,.faddr 1 (.t 1),none⟩,
 ⟨some 7,.load none (.t 6),none⟩,
 ⟨some 8,.append 1 1 (.t 5) (.t 7),none⟩,
 ⟨some 3,.mv (.t 8),none⟩] [1,3])
 (.seq (.seq (.ops [
 ⟨some 4,.mv (.c (.int .i64 0)),none⟩] [1,3,4])
 (.block 0 (.loop (.seq (.seq (.ops [
 ⟨some 9,.mv (.t 4),none⟩,
 ⟨some 10,.faddr 2 (.t 1),none⟩,
 ⟨some 11,.load none (.t 10),none⟩,
 ⟨some 12,.lenS (.t 11),none⟩,
 ⟨some 13,.bin .lss (.t 9) (.t 12),none⟩] [1,3,4,13])
 (.cond (.t 13)
 .skip
 (.exit 0)))
 (.seq (.block 1 (.ops [
 ⟨some 16,.mv (.t 3),none⟩,
 ⟨some 17,.faddr 2 (.t 1),none⟩,
 ⟨some 18,.load none (.t 17),none⟩,
 ⟨some 19,.mv (.t 4),none⟩,
 ⟨some 20,.iaddrS 1 (.t 18) (.t 19),none⟩,
 ⟨some 21,.load none (.t 20),none⟩,
 ⟨some 22,.append 1 1 (.t 16) (.t 21),none⟩,
 ⟨some 3,.mv (.t 22),none⟩] [1,3,4]))
 (.ops [
 ⟨some 14,.mv (.t 4),none⟩,
 ⟨some 15,.bin .add (.t 14) (.c (.int .i64 1)),none⟩,
 ⟨some 4,.mv (.t 15),none⟩] [1,3,4]))))))
 (.seq (.ops [
 ⟨some 23,.mv (.t 3),none⟩,
 ⟨some 2,.mv (.t 23),none⟩] [2])
 .ret)))
def ir_bandboxref11_File_all : AFunc := ⟨1,24,[.tmp 2],
 (.seq (.ops [
 ⟨some 1,.box (.t 0),none⟩,
 ⟨some 2,.mv (.c (.slice none 0 0)),none⟩] [1])
 ir_bandboxref11_File_all_5)⟩

def h_bandboxref11_May : Hint := [(0,[0],[]),(1,[0,11],[]),(2,[2],[]),(3,[0,3],[]),(4,[0,3,15],[]),(5,[0,3],[]),(6,[0,3,27],[]),(7,[2],[]),(8,[2],[])]
def ir_bandboxref11_May_3 : ACode := (.seq (.seq (.ops [
 ⟨some 3,.mv (.c (.int .i64 0)),none⟩] [0,3])
 (.block 0 (.loop (.seq (.seq (.ops [
 ⟨some 12,.mv (.t 3),none⟩,
 ⟨some 13,.mv (.t 0),none⟩,
 ⟨some 14,.lenStr (.t 13),none⟩,
 ⟨some 15,.bin .lss (.t 12) (.t 14),none⟩] [0,3,15])
 (.cond (.t 15)
 .skip
 (.exit 0)))
 (.seq (.block 1 (.seq (.ops [
 ⟨some 18,.mv (.t 0),none⟩,
 ⟨some 19,.mv (.t 3),none⟩,
 ⟨some 20,.idxS (.t 18) (.t 19),none⟩,
 ⟨some 21,.bin .lss (.t 20) (.c (.int .u8 33)),none⟩,
 ⟨some 22,.mv (.t 21),none⟩,
 ⟨some 23,.mv (.t 0),(some (22,false))⟩,
 ⟨some 24,.mv (.t 3),(some (22,false))⟩,
 ⟨some 25,.idxS (.t 23) (.t 24),(some (22,false))⟩,
 ⟨some 26,.bin .gtr (.t 25) (.c (.int .u8 126)),(some (22,false))⟩,
 ⟨some 27,.pick (.t 22) (.c (.bool true)) (.t 26),none⟩] [0,3,27])
 (.cond (.t 27)
 (.seq (.ops [
 ⟨some 2,.mv (.c (.bool false)),none⟩] [2])
 .ret)
 .skip)))
 (.ops [
 ⟨some 16,.mv (.t 3),none⟩,
 ⟨some 17,.bin .add (.t 16) (.c (.int .i64 1)),none⟩,
 ⟨some 3,.mv (.t 17),none⟩] [0,3]))))))
 (.seq (.ops [
 ⟨some 2,.mv (.c (.bool true)),none⟩] [2])
 .ret))
def ir_bandboxref11_May : AFunc := ⟨1,28,[.tmp 2],
 (.seq (.ops [
 ⟨some 2,.mv (.c (.bool false)),none⟩] [0])
 (.seq (.seq (.ops [
 ⟨some 4,.mv (.t 0),none⟩,
 ⟨some 5,.lenStr (.t 4),none⟩,
 ⟨some 6,.bin .lss (.t 5) (.c (.int .i64 1)),none⟩,
 ⟨some 7,.mv (.t 6),none⟩,
 ⟨some 8,.mv (.t 0),(some (7,false))⟩,
 ⟨some 9,.lenStr (.t 8),(some (7,false))⟩,
 ⟨some 10,.bin .gtr (.t 9) (.c (.int .i64 20)),(some (7,false))⟩,
 ⟨some 11,.pick (.t 7) (.c (.bool true)) (.t 10),none⟩] [0,11])
 (.cond (.t 11)
 (.seq (.ops [
 ⟨some 2,.mv (.c (.bool false)),none⟩] [2])
 .ret)
 .skip))
 ir_bandboxref11_May_3))⟩

def h_bandboxref11_Disk_find : Hint := [(0,[0,1],[]),(1,[0,1,5],[]),(2,[0,1,5,12],[]),(3,[0,1,5],[]),(4,[0,1,5,24],[]),(5,[4],[]),(6,[4],[])]
def ir_bandboxref11_Disk_find_5 : ACode := (.seq (.seq (.ops [
 ⟨some 5,.mv (.c (.int .i64 0)),none⟩] [0,1,5])
 (.block 0 (.loop (.seq (.seq (.ops [
 ⟨some 6,.mv (.t 5),none⟩,
 ⟨some 7,.mv (.t 0),none⟩,
 ⟨some 8,.nilc (.t 7),none⟩,
 ⟨some 9,.faddr 1 (.t 8),none⟩,
 ⟨some 10,.load none (.t 9),none⟩,
 ⟨some 11,.lenS (.t 10),none⟩,
 ⟨some 12,.bin .lss (.t 6) (.t 11),none⟩] [0,1,5,12])
 (.cond (.t 12)
 .skip
 (.exit 0)))
 (.seq (.block 1 (.seq (.ops [
 ⟨some 15,.mv (.t 0),none⟩,
 ⟨some 16,.nilc (.t 15),none⟩,
 ⟨some 17,.faddr 1 (.t 16),none⟩,
 ⟨some 18,.load none (.t 17),none⟩,
 ⟨some 19,.mv (.t 5),none⟩,
 ⟨some 20,.iaddrS 3 (.t 18) (.t 19),none⟩,
 ⟨some 21,.faddr 0 (.t 20),none⟩,
 ⟨some 22,.load none (.t 21),none⟩,
 ⟨some 23,.mv (.t 1),none⟩,
 ⟨some 24,.bin .eql (.t 22) (.t 23),none⟩] [0,1,5,24])
 (.cond (.t 24)
 (.seq (.ops [
 ⟨some 25,.mv (.t 5),none⟩,
 ⟨some 4,.mv (.t 25),none⟩] [4])
 .ret)
 .skip)))
 (.ops [
 ⟨some 13,.mv (.t 5),none⟩,
 ⟨some 14,.bin .add (.t 13) (.c (.int .i64 1)),none⟩,
 ⟨some 5,.mv (.t 14),none⟩] [0,1,5]))))))
 (.seq (.ops [
 ⟨some 4,.mv (.c (.int .i64 (-1))),none⟩] [4])
 .ret))
def ir_bandboxref11_Disk_find : AFunc := ⟨2,26,[.tmp 4],
 (.seq (.ops [
 ⟨some 4,.mv (.c (.int .i64 0)),none⟩] [0,1])
 ir_bandboxref11_Disk_find_5)⟩

def h_bandboxref11_Disk_drop : Hint := [(0,[],[(1,0),(2,0),(3,0),(4,0),(5,0),(6,0),(7,0),(8,0),(9,1),(10,1),(11,1),(12,1),(13,1),(14,1),(15,1),(16,0),(0,2),(17,0),(18,0),(19,0)])]
def ir_bandboxref11_Disk_drop : AFunc := ⟨2,23,[],
 (.dops [
 ⟨1,some 5,.bslice 0 3 ([.string .empty,.slice none 0 0,.slice none 0 0]) [],none,0⟩,
 ⟨2,some 6,.mv (.t 0),none,0⟩,
 ⟨3,some 7,.nilc (.t 6),none,0⟩,
 ⟨4,some 8,.faddr 1 (.t 7),none,0⟩,
 ⟨5,some 9,.load none (.t 8),none,0⟩,
 ⟨6,some 10,.mv (.t 1),none,0⟩,
 ⟨7,some 11,.slSl 3 (.t 9) none (some (.t 10)) none,none,0⟩,
 ⟨8,some 12,.append 3 64 (.t 5) (.t 11),none,0⟩,
 ⟨9,some 13,.mv (.t 0),none,1⟩,
 ⟨10,some 14,.nilc (.t 13),none,1⟩,
 ⟨11,some 15,.faddr 1 (.t 14),none,1⟩,
 ⟨12,some 16,.load none (.t 15),none,1⟩,
 ⟨13,some 17,.mv (.t 1),none,1⟩,
 ⟨14,some 18,.bin .add (.t 17) (.c (.int .i64 1)),none,1⟩,
 ⟨15,some 19,.slSl 3 (.t 16) (some (.t 18)) none none,none,1⟩,
 ⟨16,some 20,.append 3 64 (.t 12) (.t 19),none,0⟩,
 ⟨0,some 4,.mv (.t 0),none,2⟩,
 ⟨17,some 21,.nilc (.t 4),none,0⟩,
 ⟨18,some 22,.faddr 1 (.t 21),none,0⟩,
 ⟨19,none,.store 1 (.t 22) (.t 20),none,0⟩] [])⟩

def h_bandboxref11_stays : Hint := [(0,[0,1],[]),(1,[0,1,6],[]),(2,[0,1],[]),(3,[4],[])]
def ir_bandboxref11_stays : AFunc := ⟨2,13,[.tmp 4],
 (.seq (.ops [
 ⟨some 4,.mv (.c (.bool false)),none⟩] [0,1])
 (.seq (.seq (.ops [
 ⟨some 5,.mv (.t 1),none⟩,
 ⟨some 6,.bin .gtr (.t 5) (.c (.int .i64 63)),none⟩] [0,1,6])
 (.cond (.t 6)
 (.ops [
 ⟨some 1,.mv (.c (.int .i64 63)),none⟩] [0,1])
 .skip))
 (.seq (.ops [
 ⟨some 7,.mv (.t 0),none⟩,
 ⟨some 8,.mv (.t 1),none⟩,
 ⟨some 9,.conv .u64 (.t 8),none⟩,
 ⟨some 10,.bin .shr (.t 7) (.t 9),none⟩,
 ⟨some 11,.bin .and (.t 10) (.c (.int .u64 1)),none⟩,
 ⟨some 12,.bin .eql (.t 11) (.c (.int .u64 1)),none⟩,
 ⟨some 4,.mv (.t 12),none⟩] [4])
 .ret)))⟩

noncomputable def tabT : NT := (.node 75 (h_disk_file_crash_1,ir_disk_file_crash_1) (.node 53 (h_disk_Disk_ask,ir_disk_Disk_ask) (.node 30 (h_disk_Disk_On,ir_disk_Disk_On) (.node 28 (h_disk_Disk_Append,ir_disk_Disk_Append) (.node 27 (h_disk_New,ir_disk_New) (.node 26 (h_bandboxlaw13_awake,ir_bandboxlaw13_awake) .leaf .leaf) .leaf) (.node 29 (h_disk_Disk_Crash,ir_disk_Disk_Crash) .leaf .leaf)) (.node 51 (h_disk_Disk_Lives,ir_disk_Disk_Lives) (.node 34 (h_disk_Disk_Sync,ir_disk_Disk_Sync) (.node 31 (h_disk_Disk_Read,ir_disk_Disk_Read) .leaf .leaf) .leaf) (.node 52 (h_disk_Disk_Power,ir_disk_Disk_Power) .leaf .leaf))) (.node 58 (h_disk_file_all,ir_disk_file_all) (.node 56 (h_disk_file_crash,ir_disk_file_crash) (.node 55 (h_slices_Clone_byte_byte,ir_slices_Clone_byte_byte) (.node 54 (h_disk_Disk_size,ir_disk_Disk_size) .leaf .leaf) .leaf) (.node 57 (h_disk_Disk_find,ir_disk_Disk_find) .leaf .leaf)) (.node 73 (h_disk_good,ir_disk_good) (.node 64 (h_slices_Concat_byte_byte,ir_slices_Concat_byte_byte) (.node 60 (h_disk_file_sync,ir_disk_file_sync) .leaf .leaf) .leaf) (.node 74 (h_disk_file_size,ir_disk_file_size) .leaf .leaf)))) (.node 110 (h_bandboxref11_Disk_Crash,ir_bandboxref11_Disk_Crash) (.node 105 (h_disk_Disk_Size,ir_disk_Disk_Size) (.node 103 (h_disk_Disk_Rename,ir_disk_Disk_Rename) (.node 99 (h_bandboxlaw13_DiskPlays,ir_bandboxlaw13_DiskPlays) (.node 80 (h_slices_Grow_byte_byte,ir_slices_Grow_byte_byte) .leaf .leaf) .leaf) (.node 104 (h_disk_Disk_Drop,ir_disk_Disk_Drop) .leaf .leaf)) (.node 108 (h_bandboxref11_Disk_Rename,ir_bandboxref11_Disk_Rename) (.node 107 (h_bandboxref11_Disk_Sync,ir_bandboxref11_Disk_Sync) (.node 106 (h_bandboxref11_Disk_Append,ir_bandboxref11_Disk_Append) .leaf .leaf) .leaf) (.node 109 (h_bandboxref11_Disk_Drop,ir_bandboxref11_Disk_Drop) .leaf .leaf))) (.node 122 (h_bandboxref11_File_all,ir_bandboxref11_File_all) (.node 113 (h_bandboxref11_Disk_Size,ir_bandboxref11_Disk_Size) (.node 112 (h_bandboxref11_Disk_Read,ir_bandboxref11_Disk_Read) (.node 111 (h_bandboxref11_Disk_On,ir_bandboxref11_Disk_On) .leaf .leaf) .leaf) (.node 121 (h_bandboxref11_Disk_ask,ir_bandboxref11_Disk_ask) .leaf .leaf)) (.node 125 (h_bandboxref11_Disk_drop,ir_bandboxref11_Disk_drop) (.node 124 (h_bandboxref11_Disk_find,ir_bandboxref11_Disk_find) (.node 123 (h_bandboxref11_May,ir_bandboxref11_May) .leaf .leaf) .leaf) (.node 126 (h_bandboxref11_stays,ir_bandboxref11_stays) .leaf .leaf)))))
noncomputable def tab : Nat → Option (Hint × AFunc) := tabT.find
abbrev n_bandboxlaw13_awake : Nat := 26
abbrev n_disk_New : Nat := 27
abbrev n_disk_Disk_Append : Nat := 28
abbrev n_disk_Disk_Crash : Nat := 29
abbrev n_disk_Disk_On : Nat := 30
abbrev n_disk_Disk_Read : Nat := 31
abbrev n_disk_Disk_Sync : Nat := 34
abbrev n_disk_Disk_Lives : Nat := 51
abbrev n_disk_Disk_Power : Nat := 52
abbrev n_disk_Disk_ask : Nat := 53
abbrev n_disk_Disk_size : Nat := 54
abbrev n_slices_Clone_byte_byte : Nat := 55
abbrev n_disk_file_crash : Nat := 56
abbrev n_disk_Disk_find : Nat := 57
abbrev n_disk_file_all : Nat := 58
abbrev n_disk_file_sync : Nat := 60
abbrev n_slices_Concat_byte_byte : Nat := 64
abbrev n_disk_good : Nat := 73
abbrev n_disk_file_size : Nat := 74
abbrev n_disk_file_crash_1 : Nat := 75
abbrev n_slices_Grow_byte_byte : Nat := 80
abbrev n_bandboxlaw13_DiskPlays : Nat := 99
abbrev n_disk_Disk_Rename : Nat := 103
abbrev n_disk_Disk_Drop : Nat := 104
abbrev n_disk_Disk_Size : Nat := 105
abbrev n_bandboxref11_Disk_Append : Nat := 106
abbrev n_bandboxref11_Disk_Sync : Nat := 107
abbrev n_bandboxref11_Disk_Rename : Nat := 108
abbrev n_bandboxref11_Disk_Drop : Nat := 109
abbrev n_bandboxref11_Disk_Crash : Nat := 110
abbrev n_bandboxref11_Disk_On : Nat := 111
abbrev n_bandboxref11_Disk_Read : Nat := 112
abbrev n_bandboxref11_Disk_Size : Nat := 113
abbrev n_bandboxref11_Disk_ask : Nat := 121
abbrev n_bandboxref11_File_all : Nat := 122
abbrev n_bandboxref11_May : Nat := 123
abbrev n_bandboxref11_Disk_find : Nat := 124
abbrev n_bandboxref11_Disk_drop : Nat := 125
abbrev n_bandboxref11_stays : Nat := 126
end Go.Bb
