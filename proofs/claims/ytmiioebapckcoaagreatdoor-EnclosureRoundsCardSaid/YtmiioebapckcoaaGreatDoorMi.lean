/- Part 9 of a proof: the small semantics, its soundness, the functions of the program in it, and the law. -/
import Derived.Test.YtmiioebapckcoaaGreatDoorMh
set_option linter.unusedVariables false
set_option linter.unusedSimpArgs false
section
/- MADE BY A PROGRAM OF THE CLAIM (wip/tools/Gen.lean): the seat's functions in the small language. -/
namespace Go.Proofs.YtmiioebapckcoaaGreatDoor
open Go
/-- workpiece/workpiecelaw05.EnclosureRounds -/
def h3 : Hints := ⟨[(0, [2, 3, 4]), (1, [2, 3, 4, 7]), (2, [2, 3, 4, 7]), (3, [2, 4, 7, 8]), (4, [2, 7, 8, 9]), (5, [2, 7, 8, 9, 10]), (6, [2, 7, 8, 9, 10, 34]), (7, [2, 7, 10]), (8, [2, 7, 10, 11, 12]), (9, [2, 7, 10, 11, 12, 13, 14]), (10, [2, 7, 10, 11, 66]), (11, [6]), (12, [2, 7, 10, 11, 15]), (13, [2, 7, 10, 11, 15, 16]), (14, [2, 7, 10, 11, 15, 16, 70]), (16, [2, 7, 10, 11, 15, 16]), (15, [2, 7, 10, 11, 15, 16]), (17, [7, 10, 11, 15, 17, 18]), (18, [7, 15, 17, 18, 19, 20]), (19, [6])], []⟩
def l3_0 : C :=
  .seq
 (.seq
 (.reg [⟨(some 68), .move (.t 16), none⟩,
 ⟨(some 69), .move (.t 2), none⟩,
 ⟨(some 70), .bin .lss (.t 68) (.t 69), none⟩] [2, 7, 10, 11, 15, 16, 70])
 (.cond (.t 70)
 (.skip)
 (.exit 0)))
 (.seq
 (.block 1 (.draw [⟨0, ⟨(some 74), .load true 2 (.t 15), none⟩, 0, []⟩,
 ⟨1, ⟨(some 75), .call false (.f 16) [(.c (.i .i64 10)), (.c (.i .i64 1))], none⟩, 1, [0]⟩,
 ⟨2, ⟨(some 76), .call false (.f 17) [(.t 74), (.t 75)], none⟩, 1, []⟩,
 ⟨3, ⟨(some 73), .move (.t 76), none⟩, 0, []⟩,
 ⟨4, ⟨(some 77), .ext (.t 73) 0, none⟩, 0, []⟩,
 ⟨5, ⟨(some 78), .ext (.t 73) 1, none⟩, 0, []⟩,
 ⟨6, ⟨none, .store 2 (.t 15) (.t 77), none⟩, 1, []⟩] [2, 7, 10, 11, 15, 16]))
 (.reg [⟨(some 71), .move (.t 16), none⟩,
 ⟨(some 72), .bin .add (.t 71) (.c (.i .i64 1)), none⟩,
 ⟨(some 16), .move (.t 72), none⟩] [2, 7, 10, 11, 15, 16]))
def b3 : C :=
  .seq
 (.reg [⟨(some 3), .box 22 (.t 0), none⟩,
 ⟨(some 4), .box 22 (.t 1), none⟩,
 ⟨(some 6), .move (.c (.b false)), none⟩] [2, 3, 4])
 (.seq
 (.reg [⟨(some 21), .call false (.f 10) [], none⟩,
 ⟨(some 7), .move (.t 21), none⟩] [2, 3, 4, 7])
 (.seq
 (.reg [⟨(some 22), .move (.t 2), none⟩,
 ⟨(some 23), .call false (.f 11) [(.t 22), (.c (.i .i64 31))], none⟩,
 ⟨(some 2), .move (.t 23), none⟩] [2, 3, 4, 7])
 (.seq
 (.reg [⟨(some 24), .load true 4 (.t 3), none⟩,
 ⟨(some 25), .call false (.f 12) [(.t 24)], none⟩,
 ⟨(some 8), .alloc 26 [(.s []), (.s [])], none⟩,
 ⟨none, .store 2 (.t 8) (.t 25), none⟩] [2, 4, 7, 8])
 (.seq
 (.reg [⟨(some 26), .load true 4 (.t 4), none⟩,
 ⟨(some 27), .call false (.f 12) [(.t 26)], none⟩,
 ⟨(some 9), .alloc 26 [(.s []), (.s [])], none⟩,
 ⟨none, .store 2 (.t 9) (.t 27), none⟩] [2, 7, 8, 9])
 (.seq
 (.reg [⟨(some 28), .load true 2 (.t 8), none⟩,
 ⟨(some 29), .load true 2 (.t 9), none⟩,
 ⟨(some 30), .build [(.s []), (.s []), (.s []), (.s [])] [(0, 2, (.t 28)), (2, 2, (.t 29))], none⟩,
 ⟨(some 10), .alloc 29 [(.s []), (.s []), (.s []), (.s [])], none⟩,
 ⟨none, .store 4 (.t 10) (.t 30), none⟩] [2, 7, 8, 9, 10])
 (.seq
 (.seq
 (.reg [⟨(some 31), .load true 2 (.t 8), none⟩,
 ⟨(some 32), .load true 2 (.t 9), none⟩,
 ⟨(some 33), .call false (.f 13) [(.t 31), (.t 32)], none⟩,
 ⟨(some 34), .bin .gtr (.t 33) (.c (.i .i64 0)), none⟩] [2, 7, 8, 9, 10, 34])
 (.cond (.t 34)
 (.reg [⟨(some 35), .load true 2 (.t 9), none⟩,
 ⟨(some 36), .load true 2 (.t 8), none⟩,
 ⟨(some 37), .build [(.s []), (.s []), (.s []), (.s [])] [(0, 2, (.t 35)), (2, 2, (.t 36))], none⟩,
 ⟨none, .store 4 (.t 10) (.t 37), none⟩] [2, 7, 10])
 (.skip)))
 (.seq
 (.reg [⟨(some 39), .load true 4 (.t 10), none⟩,
 ⟨(some 40), .move (.t 2), none⟩,
 ⟨(some 41), .call false (.f 14) [(.t 39), (.t 40)], none⟩,
 ⟨(some 38), .move (.t 41), none⟩,
 ⟨(some 42), .ext (.t 38) 0, none⟩,
 ⟨(some 43), .ext (.t 38) 1, none⟩,
 ⟨(some 11), .alloc 29 [(.s []), (.s []), (.s []), (.s [])], none⟩,
 ⟨none, .store 4 (.t 11) (.t 42), none⟩,
 ⟨(some 12), .move (.t 43), none⟩] [2, 7, 10, 11, 12])
 (.seq
 (.reg [⟨(some 45), .load true 4 (.t 11), none⟩,
 ⟨(some 46), .move (.t 2), none⟩,
 ⟨(some 47), .call false (.f 14) [(.t 45), (.t 46)], none⟩,
 ⟨(some 44), .move (.t 47), none⟩,
 ⟨(some 48), .ext (.t 44) 0, none⟩,
 ⟨(some 49), .ext (.t 44) 1, none⟩,
 ⟨(some 13), .alloc 29 [(.s []), (.s []), (.s []), (.s [])], none⟩,
 ⟨none, .store 4 (.t 13) (.t 48), none⟩,
 ⟨(some 14), .move (.t 49), none⟩] [2, 7, 10, 11, 12, 13, 14])
 (.seq
 (.seq
 (.reg [⟨(some 50), .move (.t 12), none⟩,
 ⟨(some 51), .bin .neq (.t 50) (.c (.i .i64 0)), none⟩,
 ⟨(some 52), .move (.t 51), none⟩,
 ⟨(some 53), .move (.t 14), some (52, false)⟩,
 ⟨(some 54), .bin .neq (.t 53) (.c (.i .i64 0)), some (52, false)⟩,
 ⟨(some 55), .pick (.t 52) (.c (.b true)) (.t 54), none⟩,
 ⟨(some 56), .move (.t 55), none⟩,
 ⟨(some 57), .load true 4 (.t 13), some (56, false)⟩,
 ⟨(some 58), .load true 4 (.t 11), some (56, false)⟩,
 ⟨(some 59), .eqS true [.s, .s, .s, .s] (.t 57) (.t 58), some (56, false)⟩,
 ⟨(some 60), .pick (.t 56) (.c (.b true)) (.t 59), none⟩,
 ⟨(some 61), .move (.t 60), none⟩,
 ⟨(some 62), .load true 4 (.t 10), some (61, false)⟩,
 ⟨(some 63), .load true 4 (.t 11), some (61, false)⟩,
 ⟨(some 64), .call false (.f 15) [(.t 62), (.t 63)], some (61, false)⟩,
 ⟨(some 65), .un .not (.t 64), some (61, false)⟩,
 ⟨(some 66), .pick (.t 61) (.c (.b true)) (.t 65), none⟩] [2, 7, 10, 11, 66])
 (.cond (.t 66)
 (.seq
 (.reg [⟨(some 6), .move (.c (.b false)), none⟩] [6])
 (.ret))
 (.skip)))
 (.seq
 (.reg [⟨(some 67), .call false (.f 16) [(.c (.i .i64 1)), (.c (.i .i64 1))], none⟩,
 ⟨(some 15), .alloc 26 [(.s []), (.s [])], none⟩,
 ⟨none, .store 2 (.t 15) (.t 67), none⟩] [2, 7, 10, 11, 15])
 (.seq
 (.seq
 (.reg [⟨(some 16), .move (.c (.i .i64 0)), none⟩] [2, 7, 10, 11, 15, 16])
 (.block 0 (.loop l3_0)))
 (.seq
 (.reg [⟨(some 80), .fieldAddr 0 (.t 10), none⟩,
 ⟨(some 81), .load true 2 (.t 80), none⟩,
 ⟨(some 82), .fieldAddr 0 (.t 11), none⟩,
 ⟨(some 83), .load true 2 (.t 82), none⟩,
 ⟨(some 84), .call false (.f 18) [(.t 81), (.t 83)], none⟩,
 ⟨(some 79), .move (.t 84), none⟩,
 ⟨(some 85), .ext (.t 79) 0, none⟩,
 ⟨(some 86), .ext (.t 79) 1, none⟩,
 ⟨(some 17), .alloc 26 [(.s []), (.s [])], none⟩,
 ⟨none, .store 2 (.t 17) (.t 85), none⟩,
 ⟨(some 18), .move (.t 86), none⟩] [7, 10, 11, 15, 17, 18])
 (.seq
 (.reg [⟨(some 88), .fieldAddr 2 (.t 11), none⟩,
 ⟨(some 89), .load true 2 (.t 88), none⟩,
 ⟨(some 90), .fieldAddr 2 (.t 10), none⟩,
 ⟨(some 91), .load true 2 (.t 90), none⟩,
 ⟨(some 92), .call false (.f 18) [(.t 89), (.t 91)], none⟩,
 ⟨(some 87), .move (.t 92), none⟩,
 ⟨(some 93), .ext (.t 87) 0, none⟩,
 ⟨(some 94), .ext (.t 87) 1, none⟩,
 ⟨(some 19), .alloc 26 [(.s []), (.s [])], none⟩,
 ⟨none, .store 2 (.t 19) (.t 93), none⟩,
 ⟨(some 20), .move (.t 94), none⟩] [7, 15, 17, 18, 19, 20])
 (.seq
 (.reg [⟨(some 95), .move (.t 7), none⟩,
 ⟨(some 96), .move (.t 95), none⟩,
 ⟨(some 97), .move (.t 18), some (96, true)⟩,
 ⟨(some 98), .bin .neq (.t 97) (.c (.i .i64 0)), some (96, true)⟩,
 ⟨(some 99), .move (.t 98), some (96, true)⟩,
 ⟨(some 100), .load true 2 (.t 17), some (99, false)⟩,
 ⟨(some 101), .load true 2 (.t 15), some (99, false)⟩,
 ⟨(some 102), .call false (.f 13) [(.t 100), (.t 101)], some (99, false)⟩,
 ⟨(some 103), .bin .lss (.t 102) (.c (.i .i64 0)), some (99, false)⟩,
 ⟨(some 104), .pick (.t 99) (.c (.b true)) (.t 103), some (96, true)⟩,
 ⟨(some 105), .pick (.t 96) (.t 104) (.c (.b false)), none⟩,
 ⟨(some 106), .move (.t 105), none⟩,
 ⟨(some 107), .move (.t 20), some (106, true)⟩,
 ⟨(some 108), .bin .neq (.t 107) (.c (.i .i64 0)), some (106, true)⟩,
 ⟨(some 109), .move (.t 108), some (106, true)⟩,
 ⟨(some 110), .load true 2 (.t 19), some (109, false)⟩,
 ⟨(some 111), .load true 2 (.t 15), some (109, false)⟩,
 ⟨(some 112), .call false (.f 13) [(.t 110), (.t 111)], some (109, false)⟩,
 ⟨(some 113), .bin .lss (.t 112) (.c (.i .i64 0)), some (109, false)⟩,
 ⟨(some 114), .pick (.t 109) (.c (.b true)) (.t 113), some (106, true)⟩,
 ⟨(some 115), .pick (.t 106) (.t 114) (.c (.b false)), none⟩,
 ⟨(some 6), .move (.t 115), none⟩] [6])
 (.ret)))))))))))))))
def c3 : SF := ⟨116, [.t 6], b3, none⟩

/-- workpiece/workpiecelaw05.sane -/
def h10 : Hints := ⟨[(0, []), (1, [1, 2]), (2, [1, 2, 4]), (3, [1, 2, 4, 5, 6]), (4, [1, 2, 4, 5, 6, 7, 8]), (5, [1, 2, 4, 5, 6, 7, 8, 9, 10]), (6, [1, 2, 4, 5, 6, 7, 8, 9, 10, 12]), (7, [1, 2, 4, 5, 6, 7, 8, 9, 10, 12, 13, 14]), (8, [1, 2, 4, 5, 6, 7, 8, 9, 10, 12, 13, 14, 15, 16]), (9, [1, 5, 7, 9, 10, 12, 13, 14, 15, 16, 17]), (10, [1, 5, 7, 17, 18]), (11, [0])], []⟩
def b10 : C :=
  .seq
 (.reg [⟨(some 0), .move (.c (.b false)), none⟩] [])
 (.seq
 (.reg [⟨(some 20), .call false (.f 42) [(.c (.i .i64 (-2))), (.c (.i .i64 3))], none⟩,
 ⟨(some 21), .call false (.f 42) [(.c (.i .i64 (-5))), (.c (.i .i64 1))], none⟩,
 ⟨(some 22), .call false (.f 41) [(.t 20), (.t 21)], none⟩,
 ⟨(some 19), .move (.t 22), none⟩,
 ⟨(some 23), .ext (.t 19) 0, none⟩,
 ⟨(some 24), .ext (.t 19) 1, none⟩,
 ⟨(some 1), .alloc 29 [(.s []), (.s []), (.s []), (.s [])], none⟩,
 ⟨none, .store 4 (.t 1) (.t 23), none⟩,
 ⟨(some 2), .move (.t 24), none⟩] [1, 2])
 (.seq
 (.reg [⟨(some 26), .call false (.f 42) [(.c (.i .i64 1)), (.c (.i .i64 2))], none⟩,
 ⟨(some 27), .call false (.f 42) [(.c (.i .i64 (-1))), (.c (.i .i64 4))], none⟩,
 ⟨(some 28), .call false (.f 43) [(.t 26), (.t 27)], none⟩,
 ⟨(some 25), .move (.t 28), none⟩,
 ⟨(some 29), .ext (.t 25) 0, none⟩,
 ⟨(some 30), .ext (.t 25) 1, none⟩,
 ⟨(some 3), .alloc 29 [(.s []), (.s []), (.s []), (.s [])], none⟩,
 ⟨none, .store 4 (.t 3) (.t 29), none⟩,
 ⟨(some 4), .move (.t 30), none⟩] [1, 2, 4])
 (.seq
 (.reg [⟨(some 32), .call false (.f 42) [(.c (.i .i64 1)), (.c (.i .i64 2))], none⟩,
 ⟨(some 33), .call false (.f 42) [(.c (.i .i64 2)), (.c (.i .i64 4))], none⟩,
 ⟨(some 34), .call false (.f 43) [(.t 32), (.t 33)], none⟩,
 ⟨(some 31), .move (.t 34), none⟩,
 ⟨(some 35), .ext (.t 31) 0, none⟩,
 ⟨(some 36), .ext (.t 31) 1, none⟩,
 ⟨(some 5), .alloc 29 [(.s []), (.s []), (.s []), (.s [])], none⟩,
 ⟨none, .store 4 (.t 5) (.t 35), none⟩,
 ⟨(some 6), .move (.t 36), none⟩] [1, 2, 4, 5, 6])
 (.seq
 (.reg [⟨(some 38), .call false (.f 42) [(.c (.i .i64 2)), (.c (.i .i64 3))], none⟩,
 ⟨(some 39), .call false (.f 22) [(.t 38), (.c (.i .i64 1))], none⟩,
 ⟨(some 37), .move (.t 39), none⟩,
 ⟨(some 40), .ext (.t 37) 0, none⟩,
 ⟨(some 41), .ext (.t 37) 1, none⟩,
 ⟨(some 7), .alloc 29 [(.s []), (.s []), (.s []), (.s [])], none⟩,
 ⟨none, .store 4 (.t 7) (.t 40), none⟩,
 ⟨(some 8), .move (.t 41), none⟩] [1, 2, 4, 5, 6, 7, 8])
 (.seq
 (.reg [⟨(some 43), .call false (.f 42) [(.c (.i .i64 1)), (.c (.i .i64 2))], none⟩,
 ⟨(some 44), .call false (.f 42) [(.c (.i .i64 2)), (.c (.i .i64 5))], none⟩,
 ⟨(some 45), .call false (.f 26) [(.t 43), (.t 44)], none⟩,
 ⟨(some 42), .move (.t 45), none⟩,
 ⟨(some 46), .ext (.t 42) 0, none⟩,
 ⟨(some 47), .ext (.t 42) 1, none⟩,
 ⟨(some 9), .alloc 29 [(.s []), (.s []), (.s []), (.s [])], none⟩,
 ⟨none, .store 4 (.t 9) (.t 46), none⟩,
 ⟨(some 10), .move (.t 47), none⟩] [1, 2, 4, 5, 6, 7, 8, 9, 10])
 (.seq
 (.reg [⟨(some 49), .call false (.f 42) [(.c (.i .i64 1)), (.c (.i .i64 2))], none⟩,
 ⟨(some 50), .call false (.f 42) [(.c (.i .i64 3)), (.c (.i .i64 5))], none⟩,
 ⟨(some 51), .call false (.f 26) [(.t 49), (.t 50)], none⟩,
 ⟨(some 48), .move (.t 51), none⟩,
 ⟨(some 52), .ext (.t 48) 0, none⟩,
 ⟨(some 53), .ext (.t 48) 1, none⟩,
 ⟨(some 11), .alloc 29 [(.s []), (.s []), (.s []), (.s [])], none⟩,
 ⟨none, .store 4 (.t 11) (.t 52), none⟩,
 ⟨(some 12), .move (.t 53), none⟩] [1, 2, 4, 5, 6, 7, 8, 9, 10, 12])
 (.seq
 (.reg [⟨(some 55), .call false (.f 16) [(.c (.i .i64 1)), (.c (.i .i64 3))], none⟩,
 ⟨(some 56), .call false (.f 16) [(.c (.i .i64 2)), (.c (.i .i64 3))], none⟩,
 ⟨(some 57), .build [(.s []), (.s []), (.s []), (.s [])] [(0, 2, (.t 55)), (2, 2, (.t 56))], none⟩,
 ⟨(some 58), .call false (.f 14) [(.t 57), (.c (.i .i64 1))], none⟩,
 ⟨(some 54), .move (.t 58), none⟩,
 ⟨(some 59), .ext (.t 54) 0, none⟩,
 ⟨(some 60), .ext (.t 54) 1, none⟩,
 ⟨(some 13), .alloc 29 [(.s []), (.s []), (.s []), (.s [])], none⟩,
 ⟨none, .store 4 (.t 13) (.t 59), none⟩,
 ⟨(some 14), .move (.t 60), none⟩] [1, 2, 4, 5, 6, 7, 8, 9, 10, 12, 13, 14])
 (.seq
 (.reg [⟨(some 62), .call false (.f 42) [(.c (.i .i64 (-1))), (.c (.i .i64 4))], none⟩,
 ⟨(some 63), .call false (.f 33) [(.t 62)], none⟩,
 ⟨(some 61), .move (.t 63), none⟩,
 ⟨(some 64), .ext (.t 61) 0, none⟩,
 ⟨(some 65), .ext (.t 61) 1, none⟩,
 ⟨(some 15), .alloc 26 [(.s []), (.s [])], none⟩,
 ⟨none, .store 2 (.t 15) (.t 64), none⟩,
 ⟨(some 16), .move (.t 65), none⟩] [1, 2, 4, 5, 6, 7, 8, 9, 10, 12, 13, 14, 15, 16])
 (.seq
 (.draw [⟨0, ⟨(some 66), .load true 4 (.t 1), none⟩, 0, []⟩,
 ⟨1, ⟨(some 67), .call false (.f 42) [(.c (.i .i64 (-15))), (.c (.i .i64 10))], none⟩, 1, [0]⟩,
 ⟨2, ⟨(some 68), .eqS false [.s, .s, .s, .s] (.t 66) (.t 67), none⟩, 0, []⟩,
 ⟨3, ⟨(some 69), .move (.t 68), none⟩, 0, []⟩,
 ⟨4, ⟨(some 70), .move (.t 2), some (69, true)⟩, 0, []⟩,
 ⟨5, ⟨(some 71), .bin .eql (.t 70) (.c (.i .i64 0)), some (69, true)⟩, 0, []⟩,
 ⟨6, ⟨(some 72), .pick (.t 69) (.t 71) (.c (.b false)), none⟩, 0, []⟩,
 ⟨7, ⟨(some 73), .move (.t 72), none⟩, 0, []⟩,
 ⟨8, ⟨(some 74), .move (.t 4), some (73, true)⟩, 0, []⟩,
 ⟨9, ⟨(some 75), .bin .eql (.t 74) (.c (.i .i64 50)), some (73, true)⟩, 0, []⟩,
 ⟨10, ⟨(some 76), .pick (.t 73) (.t 75) (.c (.b false)), none⟩, 0, []⟩,
 ⟨11, ⟨(some 77), .move (.t 76), none⟩, 0, []⟩,
 ⟨12, ⟨(some 78), .load true 4 (.t 5), some (77, true)⟩, 0, []⟩,
 ⟨13, ⟨(some 79), .call false (.f 16) [(.c (.i .i64 1)), (.c (.i .i64 4))], some (77, true)⟩, 1, [12]⟩,
 ⟨14, ⟨(some 80), .call false (.f 16) [(.c (.i .i64 1)), (.c (.i .i64 1))], some (77, true)⟩, 1, [12]⟩,
 ⟨15, ⟨(some 81), .build [(.s []), (.s []), (.s []), (.s [])] [(0, 2, (.t 79)), (2, 2, (.t 80))], some (77, true)⟩, 0, []⟩,
 ⟨16, ⟨(some 82), .eqS false [.s, .s, .s, .s] (.t 78) (.t 81), some (77, true)⟩, 0, []⟩,
 ⟨17, ⟨(some 83), .pick (.t 77) (.t 82) (.c (.b false)), none⟩, 0, []⟩,
 ⟨18, ⟨(some 84), .move (.t 83), none⟩, 0, []⟩,
 ⟨19, ⟨(some 85), .move (.t 6), some (84, true)⟩, 0, []⟩,
 ⟨20, ⟨(some 86), .bin .eql (.t 85) (.c (.i .i64 0)), some (84, true)⟩, 0, []⟩,
 ⟨21, ⟨(some 87), .pick (.t 84) (.t 86) (.c (.b false)), none⟩, 0, []⟩,
 ⟨22, ⟨(some 88), .move (.t 87), none⟩, 0, []⟩,
 ⟨23, ⟨(some 89), .load true 4 (.t 7), some (88, true)⟩, 0, []⟩,
 ⟨24, ⟨(some 90), .call false (.f 16) [(.c (.i .i64 7)), (.c (.i .i64 5))], some (88, true)⟩, 1, [23]⟩,
 ⟨25, ⟨(some 91), .call false (.f 16) [(.c (.i .i64 9)), (.c (.i .i64 5))], some (88, true)⟩, 1, [23]⟩,
 ⟨26, ⟨(some 92), .build [(.s []), (.s []), (.s []), (.s [])] [(0, 2, (.t 90)), (2, 2, (.t 91))], some (88, true)⟩, 0, []⟩,
 ⟨27, ⟨(some 93), .eqS false [.s, .s, .s, .s] (.t 89) (.t 92), some (88, true)⟩, 0, []⟩,
 ⟨28, ⟨(some 94), .pick (.t 88) (.t 93) (.c (.b false)), none⟩, 0, []⟩,
 ⟨29, ⟨(some 95), .move (.t 94), none⟩, 0, []⟩,
 ⟨30, ⟨(some 96), .move (.t 8), some (95, true)⟩, 0, []⟩,
 ⟨31, ⟨(some 97), .bin .eql (.t 96) (.c (.i .i64 0)), some (95, true)⟩, 0, []⟩,
 ⟨32, ⟨(some 98), .pick (.t 95) (.t 97) (.c (.b false)), none⟩, 0, []⟩,
 ⟨33, ⟨(some 17), .move (.t 98), none⟩, 0, []⟩] [1, 5, 7, 9, 10, 12, 13, 14, 15, 16, 17])
 (.seq
 (.draw [⟨0, ⟨(some 99), .load true 4 (.t 9), none⟩, 0, []⟩,
 ⟨1, ⟨(some 100), .call false (.f 42) [(.c (.i .i64 2)), (.c (.i .i64 2))], none⟩, 1, [0]⟩,
 ⟨2, ⟨(some 101), .eqS false [.s, .s, .s, .s] (.t 99) (.t 100), none⟩, 0, []⟩,
 ⟨3, ⟨(some 102), .move (.t 101), none⟩, 0, []⟩,
 ⟨4, ⟨(some 103), .move (.t 10), some (102, true)⟩, 0, []⟩,
 ⟨5, ⟨(some 104), .bin .eql (.t 103) (.c (.i .i64 0)), some (102, true)⟩, 0, []⟩,
 ⟨6, ⟨(some 105), .pick (.t 102) (.t 104) (.c (.b false)), none⟩, 0, []⟩,
 ⟨7, ⟨(some 106), .move (.t 105), none⟩, 0, []⟩,
 ⟨8, ⟨(some 107), .move (.t 12), some (106, true)⟩, 0, []⟩,
 ⟨9, ⟨(some 108), .bin .eql (.t 107) (.c (.i .i64 50)), some (106, true)⟩, 0, []⟩,
 ⟨10, ⟨(some 109), .pick (.t 106) (.t 108) (.c (.b false)), none⟩, 0, []⟩,
 ⟨11, ⟨(some 110), .move (.t 109), none⟩, 0, []⟩,
 ⟨12, ⟨(some 111), .load true 4 (.t 13), some (110, true)⟩, 0, []⟩,
 ⟨13, ⟨(some 112), .call false (.f 16) [(.c (.i .i64 3)), (.c (.i .i64 10))], some (110, true)⟩, 1, [12]⟩,
 ⟨14, ⟨(some 113), .call false (.f 16) [(.c (.i .i64 7)), (.c (.i .i64 10))], some (110, true)⟩, 1, [12]⟩,
 ⟨15, ⟨(some 114), .build [(.s []), (.s []), (.s []), (.s [])] [(0, 2, (.t 112)), (2, 2, (.t 113))], some (110, true)⟩, 0, []⟩,
 ⟨16, ⟨(some 115), .eqS false [.s, .s, .s, .s] (.t 111) (.t 114), some (110, true)⟩, 0, []⟩,
 ⟨17, ⟨(some 116), .pick (.t 110) (.t 115) (.c (.b false)), none⟩, 0, []⟩,
 ⟨18, ⟨(some 117), .move (.t 116), none⟩, 0, []⟩,
 ⟨19, ⟨(some 118), .move (.t 14), some (117, true)⟩, 0, []⟩,
 ⟨20, ⟨(some 119), .bin .eql (.t 118) (.c (.i .i64 0)), some (117, true)⟩, 0, []⟩,
 ⟨21, ⟨(some 120), .pick (.t 117) (.t 119) (.c (.b false)), none⟩, 0, []⟩,
 ⟨22, ⟨(some 121), .move (.t 120), none⟩, 0, []⟩,
 ⟨23, ⟨(some 122), .load true 2 (.t 15), some (121, true)⟩, 0, []⟩,
 ⟨24, ⟨(some 123), .call false (.f 16) [(.c (.i .i64 5)), (.c (.i .i64 1))], some (121, true)⟩, 1, [23]⟩,
 ⟨25, ⟨(some 124), .eqS false [.s, .s] (.t 122) (.t 123), some (121, true)⟩, 0, []⟩,
 ⟨26, ⟨(some 125), .pick (.t 121) (.t 124) (.c (.b false)), none⟩, 0, []⟩,
 ⟨27, ⟨(some 126), .move (.t 125), none⟩, 0, []⟩,
 ⟨28, ⟨(some 127), .move (.t 16), some (126, true)⟩, 0, []⟩,
 ⟨29, ⟨(some 128), .bin .eql (.t 127) (.c (.i .i64 0)), some (126, true)⟩, 0, []⟩,
 ⟨30, ⟨(some 129), .pick (.t 126) (.t 128) (.c (.b false)), none⟩, 0, []⟩,
 ⟨31, ⟨(some 18), .move (.t 129), none⟩, 0, []⟩] [1, 5, 7, 17, 18])
 (.seq
 (.draw [⟨0, ⟨(some 130), .move (.t 17), none⟩, 0, []⟩,
 ⟨1, ⟨(some 131), .move (.t 130), none⟩, 0, []⟩,
 ⟨2, ⟨(some 132), .move (.t 18), some (131, true)⟩, 0, []⟩,
 ⟨3, ⟨(some 133), .pick (.t 131) (.t 132) (.c (.b false)), none⟩, 0, []⟩,
 ⟨4, ⟨(some 134), .move (.t 133), none⟩, 0, []⟩,
 ⟨5, ⟨(some 135), .load true 4 (.t 1), some (134, true)⟩, 0, []⟩,
 ⟨6, ⟨(some 136), .call false (.f 35) [(.t 135)], some (134, true)⟩, 1, []⟩,
 ⟨7, ⟨(some 137), .pick (.t 134) (.t 136) (.c (.b false)), none⟩, 0, []⟩,
 ⟨8, ⟨(some 138), .move (.t 137), none⟩, 0, []⟩,
 ⟨9, ⟨(some 139), .call false (.f 42) [(.c (.i .i64 2)), (.c (.i .i64 1))], some (138, true)⟩, 1, []⟩,
 ⟨10, ⟨(some 140), .call false (.f 35) [(.t 139)], some (138, true)⟩, 1, []⟩,
 ⟨11, ⟨(some 141), .un .not (.t 140), some (138, true)⟩, 0, []⟩,
 ⟨12, ⟨(some 142), .pick (.t 138) (.t 141) (.c (.b false)), none⟩, 0, []⟩,
 ⟨13, ⟨(some 143), .move (.t 142), none⟩, 0, []⟩,
 ⟨14, ⟨(some 144), .load true 4 (.t 1), some (143, true)⟩, 0, []⟩,
 ⟨15, ⟨(some 145), .call false (.f 16) [(.c (.i .i64 0)), (.c (.i .i64 1))], some (143, true)⟩, 1, [14]⟩,
 ⟨16, ⟨(some 146), .call false (.f 23) [(.t 144), (.t 145)], some (143, true)⟩, 1, []⟩,
 ⟨17, ⟨(some 147), .pick (.t 143) (.t 146) (.c (.b false)), none⟩, 0, []⟩,
 ⟨18, ⟨(some 148), .move (.t 147), none⟩, 0, []⟩,
 ⟨19, ⟨(some 149), .load true 4 (.t 5), some (148, true)⟩, 0, []⟩,
 ⟨20, ⟨(some 150), .load true 4 (.t 7), some (148, true)⟩, 0, []⟩,
 ⟨21, ⟨(some 151), .call false (.f 15) [(.t 149), (.t 150)], some (148, true)⟩, 1, []⟩,
 ⟨22, ⟨(some 152), .un .not (.t 151), some (148, true)⟩, 0, []⟩,
 ⟨23, ⟨(some 153), .pick (.t 148) (.t 152) (.c (.b false)), none⟩, 0, []⟩,
 ⟨24, ⟨(some 154), .move (.t 153), none⟩, 0, []⟩,
 ⟨25, ⟨(some 155), .call false (.f 16) [(.c (.i .i64 3)), (.c (.i .i64 1))], some (154, true)⟩, 1, []⟩,
 ⟨26, ⟨(some 156), .call false (.f 37) [(.t 155)], some (154, true)⟩, 1, []⟩,
 ⟨27, ⟨(some 157), .call false (.f 42) [(.c (.i .i64 3)), (.c (.i .i64 3))], some (154, true)⟩, 1, []⟩,
 ⟨28, ⟨(some 158), .eqS false [.s, .s, .s, .s] (.t 156) (.t 157), some (154, true)⟩, 0, []⟩,
 ⟨29, ⟨(some 159), .pick (.t 154) (.t 158) (.c (.b false)), none⟩, 0, []⟩,
 ⟨30, ⟨(some 0), .move (.t 159), none⟩, 0, []⟩] [0])
 (.ret))))))))))))
def c10 : SF := ⟨160, [.t 0], b10, none⟩

/-- workpiece/workpiecelaw05.pick -/
def h11 : Hints := ⟨[(0, [0, 1]), (1, [0, 1, 6]), (2, [0, 1]), (3, [4])], []⟩
def b11 : C :=
  .seq
 (.reg [⟨(some 4), .move (.c (.i .i64 0)), none⟩] [0, 1])
 (.seq
 (.seq
 (.reg [⟨(some 5), .move (.t 0), none⟩,
 ⟨(some 6), .bin .lss (.t 5) (.c (.i .i64 0)), none⟩] [0, 1, 6])
 (.cond (.t 6)
 (.reg [⟨(some 7), .move (.t 0), none⟩,
 ⟨(some 8), .bin .add (.t 7) (.c (.i .i64 1)), none⟩,
 ⟨(some 9), .un .neg (.t 8), none⟩,
 ⟨(some 0), .move (.t 9), none⟩] [0, 1])
 (.skip)))
 (.seq
 (.reg [⟨(some 10), .move (.t 0), none⟩,
 ⟨(some 11), .move (.t 1), none⟩,
 ⟨(some 12), .bin .rem (.t 10) (.t 11), none⟩,
 ⟨(some 4), .move (.t 12), none⟩] [4])
 (.ret)))
def c11 : SF := ⟨13, [.t 4], b11, none⟩

/-- workpiece/workpieceref04.Long -/
def h12 : Hints := ⟨[(0, [1, 2]), (1, [1, 2, 3]), (2, [1, 2, 3, 4]), (3, [1, 2, 3, 4, 11]), (5, [1, 2, 3, 4, 5]), (6, [1, 2, 3, 4, 5, 6]), (7, [1, 2, 3, 4, 5, 6, 7]), (8, [1, 2, 3, 4, 5, 6, 7, 29]), (9, [1, 2, 3, 4, 5, 6, 7]), (10, [1, 2, 3, 4, 5, 6, 7]), (11, [1, 2, 3, 4, 6, 50]), (12, [1, 2, 3, 4, 6]), (13, [1, 2, 3, 4]), (4, [1, 2, 3, 4]), (14, [1, 2, 3, 58]), (15, [1, 2, 3]), (16, [2, 3, 68]), (17, [2, 3]), (18, [2, 8]), (19, [2])], []⟩
def l12_0 : C :=
  .seq
 (.seq
 (.reg [⟨(some 26), .move (.t 6), none⟩,
 ⟨(some 27), .len true (.t 26), none⟩,
 ⟨(some 28), .move (.t 5), none⟩,
 ⟨(some 29), .bin .lss (.t 27) (.t 28), none⟩] [1, 2, 3, 4, 5, 6, 7, 29])
 (.cond (.t 29)
 (.skip)
 (.exit 2)))
 (.block 3 (.seq
 (.reg [⟨(some 30), .move (.t 7), none⟩,
 ⟨(some 31), .bin .mul (.t 30) (.c (.i .i64 48271)), none⟩,
 ⟨(some 32), .bin .add (.t 31) (.c (.i .i64 11)), none⟩,
 ⟨(some 33), .bin .rem (.t 32) (.c (.i .i64 2147483647)), none⟩,
 ⟨(some 7), .move (.t 33), none⟩] [1, 2, 3, 4, 5, 6, 7])
 (.reg [⟨(some 34), .move (.t 6), none⟩,
 ⟨(some 35), .move (.t 7), none⟩,
 ⟨(some 36), .bin .quo (.t 35) (.c (.i .i64 65536)), none⟩,
 ⟨(some 37), .bin .rem (.t 36) (.c (.i .i64 10)), none⟩,
 ⟨(some 38), .bin .add (.c (.i .i64 48)) (.t 37), none⟩,
 ⟨(some 39), .conv .u8 (.t 38), none⟩,
 ⟨(some 40), .bslice false 5 1 [(.i .u8 0)] 1 [(0, (.t 39))], none⟩,
 ⟨(some 41), .convBS (.t 40), none⟩,
 ⟨(some 42), .bin .add (.t 34) (.t 41), none⟩,
 ⟨(some 6), .move (.t 42), none⟩] [1, 2, 3, 4, 5, 6, 7])))
def l12_1 : C :=
  .seq
 (.seq
 (.reg [⟨(some 43), .move (.t 6), none⟩,
 ⟨(some 44), .len true (.t 43), none⟩,
 ⟨(some 45), .bin .gtr (.t 44) (.c (.i .i64 1)), none⟩,
 ⟨(some 46), .move (.t 45), none⟩,
 ⟨(some 47), .move (.t 6), some (46, true)⟩,
 ⟨(some 48), .ixStr (.t 47) (.c (.i .i64 0)), some (46, true)⟩,
 ⟨(some 49), .bin .eql (.t 48) (.c (.i .u8 48)), some (46, true)⟩,
 ⟨(some 50), .pick (.t 46) (.t 49) (.c (.b false)), none⟩] [1, 2, 3, 4, 6, 50])
 (.cond (.t 50)
 (.skip)
 (.exit 4)))
 (.block 5 (.reg [⟨(some 51), .move (.t 6), none⟩,
 ⟨(some 52), .slS (.t 51) (some (.c (.i .i64 1))) none, none⟩,
 ⟨(some 6), .move (.t 52), none⟩] [1, 2, 3, 4, 6]))
def l12_2 : C :=
  .seq
 (.seq
 (.reg [⟨(some 10), .move (.t 4), none⟩,
 ⟨(some 11), .bin .lss (.t 10) (.c (.i .i64 2)), none⟩] [1, 2, 3, 4, 11])
 (.cond (.t 11)
 (.skip)
 (.exit 0)))
 (.seq
 (.block 1 (.seq
 (.reg [⟨(some 14), .move (.t 4), none⟩,
 ⟨(some 15), .bin .mul (.c (.i .i64 2)) (.t 14), none⟩,
 ⟨(some 16), .bin .add (.t 15) (.c (.i .i64 1)), none⟩,
 ⟨(some 17), .ixA 4 1 (.t 1) (.t 16), none⟩,
 ⟨(some 18), .load false 1 (.t 17), none⟩,
 ⟨(some 19), .call false (.f 44) [(.t 18), (.c (.i .i64 100))], none⟩,
 ⟨(some 20), .bin .add (.c (.i .i64 1)) (.t 19), none⟩,
 ⟨(some 5), .move (.t 20), none⟩] [1, 2, 3, 4, 5])
 (.seq
 (.reg [⟨(some 6), .move (.c (.s [])), none⟩] [1, 2, 3, 4, 5, 6])
 (.seq
 (.reg [⟨(some 21), .move (.t 4), none⟩,
 ⟨(some 22), .bin .mul (.c (.i .i64 2)) (.t 21), none⟩,
 ⟨(some 23), .ixA 4 1 (.t 1) (.t 22), none⟩,
 ⟨(some 24), .load false 1 (.t 23), none⟩,
 ⟨(some 25), .call false (.f 44) [(.t 24), (.c (.i .i64 1000000007))], none⟩,
 ⟨(some 7), .move (.t 25), none⟩] [1, 2, 3, 4, 5, 6, 7])
 (.seq
 (.block 2 (.loop l12_0))
 (.seq
 (.block 4 (.loop l12_1))
 (.reg [⟨(some 53), .move (.t 4), none⟩,
 ⟨(some 54), .move (.t 6), none⟩,
 ⟨(some 55), .ixA 2 1 (.t 3) (.t 53), none⟩,
 ⟨none, .store 1 (.t 55) (.t 54), none⟩] [1, 2, 3, 4])))))))
 (.reg [⟨(some 12), .move (.t 4), none⟩,
 ⟨(some 13), .bin .add (.t 12) (.c (.i .i64 1)), none⟩,
 ⟨(some 4), .move (.t 13), none⟩] [1, 2, 3, 4]))
def b12 : C :=
  .seq
 (.reg [⟨(some 1), .box 22 (.t 0), none⟩,
 ⟨(some 2), .alloc 26 [(.s []), (.s [])], none⟩] [1, 2])
 (.seq
 (.reg [⟨(some 3), .alloc 65 [(.s []), (.s [])], none⟩] [1, 2, 3])
 (.seq
 (.seq
 (.reg [⟨(some 4), .move (.c (.i .i64 0)), none⟩] [1, 2, 3, 4])
 (.block 0 (.loop l12_2)))
 (.seq
 (.seq
 (.reg [⟨(some 56), .ixA 2 1 (.t 3) (.c (.i .i64 1)), none⟩,
 ⟨(some 57), .load false 1 (.t 56), none⟩,
 ⟨(some 58), .bin .eql (.t 57) (.c (.s [48])), none⟩] [1, 2, 3, 58])
 (.cond (.t 58)
 (.reg [⟨(some 59), .ixA 2 1 (.t 3) (.c (.i .i64 1)), none⟩,
 ⟨none, .store 1 (.t 59) (.c (.s [55])), none⟩] [1, 2, 3])
 (.skip)))
 (.seq
 (.seq
 (.reg [⟨(some 60), .ixA 4 1 (.t 1) (.c (.i .i64 0)), none⟩,
 ⟨(some 61), .load false 1 (.t 60), none⟩,
 ⟨(some 62), .call false (.f 44) [(.t 61), (.c (.i .i64 2))], none⟩,
 ⟨(some 63), .bin .eql (.t 62) (.c (.i .i64 0)), none⟩,
 ⟨(some 64), .move (.t 63), none⟩,
 ⟨(some 65), .ixA 2 1 (.t 3) (.c (.i .i64 0)), some (64, true)⟩,
 ⟨(some 66), .load false 1 (.t 65), some (64, true)⟩,
 ⟨(some 67), .bin .neq (.t 66) (.c (.s [48])), some (64, true)⟩,
 ⟨(some 68), .pick (.t 64) (.t 67) (.c (.b false)), none⟩] [2, 3, 68])
 (.cond (.t 68)
 (.reg [⟨(some 69), .ixA 2 1 (.t 3) (.c (.i .i64 0)), none⟩,
 ⟨(some 70), .load false 1 (.t 69), none⟩,
 ⟨(some 71), .bin .add (.c (.s [45])) (.t 70), none⟩,
 ⟨(some 72), .ixA 2 1 (.t 3) (.c (.i .i64 0)), none⟩,
 ⟨none, .store 1 (.t 72) (.t 71), none⟩] [2, 3])
 (.skip)))
 (.seq
 (.reg [⟨(some 74), .ixA 2 1 (.t 3) (.c (.i .i64 0)), none⟩,
 ⟨(some 75), .load false 1 (.t 74), none⟩,
 ⟨(some 76), .ixA 2 1 (.t 3) (.c (.i .i64 1)), none⟩,
 ⟨(some 77), .load false 1 (.t 76), none⟩,
 ⟨(some 78), .call false (.f 45) [(.t 75), (.t 77)], none⟩,
 ⟨(some 73), .move (.t 78), none⟩,
 ⟨(some 79), .ext (.t 73) 0, none⟩,
 ⟨(some 80), .ext (.t 73) 1, none⟩,
 ⟨(some 8), .alloc 26 [(.s []), (.s [])], none⟩,
 ⟨none, .store 2 (.t 8) (.t 79), none⟩,
 ⟨(some 9), .move (.t 80), none⟩] [2, 8])
 (.seq
 (.reg [⟨(some 81), .load true 2 (.t 8), none⟩,
 ⟨none, .store 2 (.t 2) (.t 81), none⟩] [2])
 (.ret)))))))
def c12 : SF := ⟨82, [.cell 2 true 2], b12, none⟩

/-- workpiece/rational.Compare -/
def h13 : Hints := ⟨[(0, [2, 3]), (1, [2, 3, 20]), (2, [4]), (3, [2, 3, 5]), (4, [2, 3, 5, 6, 7]), (5, [2, 3, 5, 6, 7, 9, 10]), (6, [2, 3, 5, 7, 10, 12]), (7, [2, 3, 5, 7, 10, 12, 42]), (9, [2, 3, 5, 7, 10, 48]), (11, [2, 3, 5, 7, 10, 55]), (13, [2, 3, 5, 7, 10, 60]), (14, [4]), (12, [4]), (10, [4]), (8, [4]), (15, [2, 3, 5])], []⟩
def b13 : C :=
  .seq
 (.reg [⟨(some 2), .box 26 (.t 0), none⟩,
 ⟨(some 3), .box 26 (.t 1), none⟩,
 ⟨(some 4), .move (.c (.i .i64 0)), none⟩] [2, 3])
 (.scope (.seq
 (.seq
 (.reg [⟨(some 13), .load true 2 (.t 2), none⟩,
 ⟨(some 14), .call false (.f 46) [(.t 13)], none⟩,
 ⟨(some 15), .un .not (.t 14), none⟩,
 ⟨(some 16), .move (.t 15), none⟩,
 ⟨(some 17), .load true 2 (.t 3), some (16, false)⟩,
 ⟨(some 18), .call false (.f 46) [(.t 17)], some (16, false)⟩,
 ⟨(some 19), .un .not (.t 18), some (16, false)⟩,
 ⟨(some 20), .pick (.t 16) (.c (.b true)) (.t 19), none⟩] [2, 3, 20])
 (.cond (.t 20)
 (.seq
 (.reg [⟨(some 4), .move (.c (.i .i64 0)), none⟩] [4])
 (.ret))
 (.skip)))
 (.seq
 (.reg [⟨(some 5), .move (.c (.i .i64 1)), none⟩] [2, 3, 5])
 (.seq
 (.label 0)
 (.seq
 (.reg [⟨(some 22), .fieldAddr 0 (.t 2), none⟩,
 ⟨(some 23), .load false 1 (.t 22), none⟩,
 ⟨(some 24), .fieldAddr 1 (.t 2), none⟩,
 ⟨(some 25), .load false 1 (.t 24), none⟩,
 ⟨(some 26), .call false (.f 47) [(.t 23), (.t 25)], none⟩,
 ⟨(some 21), .move (.t 26), none⟩,
 ⟨(some 27), .ext (.t 21) 0, none⟩,
 ⟨(some 28), .ext (.t 21) 1, none⟩,
 ⟨(some 29), .ext (.t 21) 2, none⟩,
 ⟨(some 6), .move (.t 27), none⟩,
 ⟨(some 7), .move (.t 28), none⟩,
 ⟨(some 8), .move (.t 29), none⟩] [2, 3, 5, 6, 7])
 (.seq
 (.reg [⟨(some 31), .fieldAddr 0 (.t 3), none⟩,
 ⟨(some 32), .load false 1 (.t 31), none⟩,
 ⟨(some 33), .fieldAddr 1 (.t 3), none⟩,
 ⟨(some 34), .load false 1 (.t 33), none⟩,
 ⟨(some 35), .call false (.f 47) [(.t 32), (.t 34)], none⟩,
 ⟨(some 30), .move (.t 35), none⟩,
 ⟨(some 36), .ext (.t 30) 0, none⟩,
 ⟨(some 37), .ext (.t 30) 1, none⟩,
 ⟨(some 38), .ext (.t 30) 2, none⟩,
 ⟨(some 9), .move (.t 36), none⟩,
 ⟨(some 10), .move (.t 37), none⟩,
 ⟨(some 11), .move (.t 38), none⟩] [2, 3, 5, 6, 7, 9, 10])
 (.seq
 (.seq
 (.reg [⟨(some 39), .move (.t 6), none⟩,
 ⟨(some 40), .move (.t 9), none⟩,
 ⟨(some 41), .call false (.f 48) [(.t 39), (.t 40)], none⟩,
 ⟨(some 12), .move (.t 41), none⟩] [2, 3, 5, 7, 10, 12])
 (.block 0 (.seq
 (.reg [⟨(some 43), .move (.t 12), none⟩,
 ⟨(some 44), .bin .neq (.t 43) (.c (.i .i64 0)), none⟩,
 ⟨(some 42), .move (.t 44), none⟩] [2, 3, 5, 7, 10, 12, 42])
 (.cond (.t 42)
 (.seq
 (.reg [⟨(some 45), .move (.t 5), none⟩,
 ⟨(some 46), .move (.t 12), none⟩,
 ⟨(some 47), .bin .mul (.t 45) (.t 46), none⟩,
 ⟨(some 4), .move (.t 47), none⟩] [4])
 (.ret))
 (.seq
 (.reg [⟨(some 49), .move (.t 7), none⟩,
 ⟨(some 50), .bin .eql (.t 49) (.c (.s [48])), none⟩,
 ⟨(some 51), .move (.t 50), none⟩,
 ⟨(some 52), .move (.t 10), some (51, true)⟩,
 ⟨(some 53), .bin .eql (.t 52) (.c (.s [48])), some (51, true)⟩,
 ⟨(some 54), .pick (.t 51) (.t 53) (.c (.b false)), none⟩,
 ⟨(some 48), .move (.t 54), none⟩] [2, 3, 5, 7, 10, 48])
 (.cond (.t 48)
 (.seq
 (.reg [⟨(some 4), .move (.c (.i .i64 0)), none⟩] [4])
 (.ret))
 (.seq
 (.reg [⟨(some 56), .move (.t 7), none⟩,
 ⟨(some 57), .bin .eql (.t 56) (.c (.s [48])), none⟩,
 ⟨(some 55), .move (.t 57), none⟩] [2, 3, 5, 7, 10, 55])
 (.cond (.t 55)
 (.seq
 (.reg [⟨(some 58), .move (.t 5), none⟩,
 ⟨(some 59), .un .neg (.t 58), none⟩,
 ⟨(some 4), .move (.t 59), none⟩] [4])
 (.ret))
 (.seq
 (.reg [⟨(some 61), .move (.t 10), none⟩,
 ⟨(some 62), .bin .eql (.t 61) (.c (.s [48])), none⟩,
 ⟨(some 60), .move (.t 62), none⟩] [2, 3, 5, 7, 10, 60])
 (.cond (.t 60)
 (.seq
 (.reg [⟨(some 63), .move (.t 5), none⟩,
 ⟨(some 4), .move (.t 63), none⟩] [4])
 (.ret))
 (.skip)))))))))))
 (.seq
 (.draw [⟨0, ⟨(some 64), .fieldAddr 1 (.t 2), none⟩, 0, []⟩,
 ⟨1, ⟨(some 65), .load false 1 (.t 64), none⟩, 0, []⟩,
 ⟨2, ⟨(some 66), .move (.t 7), none⟩, 0, []⟩,
 ⟨3, ⟨(some 67), .build [(.s []), (.s [])] [(0, 1, (.t 65)), (1, 1, (.t 66))], none⟩, 0, []⟩,
 ⟨4, ⟨(some 68), .fieldAddr 1 (.t 3), none⟩, 0, []⟩,
 ⟨5, ⟨(some 69), .load false 1 (.t 68), none⟩, 0, []⟩,
 ⟨6, ⟨(some 70), .move (.t 10), none⟩, 0, []⟩,
 ⟨7, ⟨(some 71), .build [(.s []), (.s [])] [(0, 1, (.t 69)), (1, 1, (.t 70))], none⟩, 0, []⟩,
 ⟨8, ⟨(some 72), .move (.t 5), none⟩, 0, []⟩,
 ⟨9, ⟨(some 73), .un .neg (.t 72), none⟩, 0, []⟩,
 ⟨10, ⟨none, .store 2 (.t 2) (.t 67), none⟩, 1, [5]⟩,
 ⟨11, ⟨none, .store 2 (.t 3) (.t 71), none⟩, 1, []⟩,
 ⟨12, ⟨(some 5), .move (.t 73), none⟩, 0, []⟩] [2, 3, 5])
 (.goto 0)))))))))
def c13 : SF := ⟨74, [.t 4], b13, none⟩

/-- workpiece/enclosure.Round -/
def h14 : Hints := ⟨[(0, [2, 3, 4]), (1, [4, 5])], []⟩
def b14 : C :=
  .seq
 (.reg [⟨(some 2), .box 29 (.t 0), none⟩,
 ⟨(some 3), .box 3 (.t 1), none⟩,
 ⟨(some 4), .alloc 29 [(.s []), (.s []), (.s []), (.s [])], none⟩,
 ⟨(some 5), .move (.c (.i .i64 0)), none⟩] [2, 3, 4])
 (.seq
 (.reg [⟨(some 6), .mkF 50 [] [(.t 2), (.t 3)], none⟩,
 ⟨(some 7), .load true 4 (.t 2), none⟩,
 ⟨(some 8), .bslice false 29 4 [(.s []), (.s []), (.s []), (.s [])] 1 [(0, (.t 7))], none⟩,
 ⟨(some 9), .call false (.f 49) [(.t 6), (.t 8)], none⟩,
 ⟨(some 10), .ext (.t 9) 0, none⟩,
 ⟨(some 11), .ext (.t 9) 1, none⟩,
 ⟨none, .store 4 (.t 4) (.t 10), none⟩,
 ⟨(some 5), .move (.t 11), none⟩] [4, 5])
 (.ret))
def c14 : SF := ⟨12, [.cell 4 true 4, .t 5], b14, none⟩

/-- workpiece/enclosure.Within -/
def h15 : Hints := ⟨[(0, [2, 3]), (1, [4])], []⟩
def b15 : C :=
  .seq
 (.reg [⟨(some 2), .box 29 (.t 0), none⟩,
 ⟨(some 3), .box 29 (.t 1), none⟩,
 ⟨(some 4), .move (.c (.b false)), none⟩] [2, 3])
 (.seq
 (.reg [⟨(some 5), .load true 4 (.t 2), none⟩,
 ⟨(some 6), .call false (.f 35) [(.t 5)], none⟩,
 ⟨(some 7), .move (.t 6), none⟩,
 ⟨(some 8), .load true 4 (.t 3), some (7, true)⟩,
 ⟨(some 9), .fieldAddr 0 (.t 2), some (7, true)⟩,
 ⟨(some 10), .load true 2 (.t 9), some (7, true)⟩,
 ⟨(some 11), .call false (.f 23) [(.t 8), (.t 10)], some (7, true)⟩,
 ⟨(some 12), .pick (.t 7) (.t 11) (.c (.b false)), none⟩,
 ⟨(some 13), .move (.t 12), none⟩,
 ⟨(some 14), .load true 4 (.t 3), some (13, true)⟩,
 ⟨(some 15), .fieldAddr 2 (.t 2), some (13, true)⟩,
 ⟨(some 16), .load true 2 (.t 15), some (13, true)⟩,
 ⟨(some 17), .call false (.f 23) [(.t 14), (.t 16)], some (13, true)⟩,
 ⟨(some 18), .pick (.t 13) (.t 17) (.c (.b false)), none⟩,
 ⟨(some 4), .move (.t 18), none⟩] [4])
 (.ret))
def c15 : SF := ⟨19, [.t 4], b15, none⟩

/-- workpiece/workpiecelaw05.ratio -/
def h16 : Hints := ⟨[(0, [0, 1, 4]), (1, [4, 5]), (2, [4])], []⟩
def b16 : C :=
  .seq
 (.reg [⟨(some 4), .alloc 26 [(.s []), (.s [])], none⟩] [0, 1, 4])
 (.seq
 (.reg [⟨(some 8), .move (.t 0), none⟩,
 ⟨(some 9), .move (.t 1), none⟩,
 ⟨(some 10), .call false (.f 54) [(.t 8), (.t 9)], none⟩,
 ⟨(some 7), .move (.t 10), none⟩,
 ⟨(some 11), .ext (.t 7) 0, none⟩,
 ⟨(some 12), .ext (.t 7) 1, none⟩,
 ⟨(some 5), .alloc 26 [(.s []), (.s [])], none⟩,
 ⟨none, .store 2 (.t 5) (.t 11), none⟩,
 ⟨(some 6), .move (.t 12), none⟩] [4, 5])
 (.seq
 (.reg [⟨(some 13), .load true 2 (.t 5), none⟩,
 ⟨none, .store 2 (.t 4) (.t 13), none⟩] [4])
 (.ret)))
def c16 : SF := ⟨14, [.cell 4 true 2], b16, none⟩

/-- workpiece/rational.Div -/
def h17 : Hints := ⟨[(0, [2, 3, 4]), (1, [2, 3, 4, 6]), (2, [2, 3, 4, 6]), (3, [2, 3, 4, 6, 7]), (4, [4, 5])], []⟩
def b17 : C :=
  .seq
 (.reg [⟨(some 2), .box 26 (.t 0), none⟩,
 ⟨(some 3), .box 26 (.t 1), none⟩,
 ⟨(some 4), .alloc 26 [(.s []), (.s [])], none⟩,
 ⟨(some 5), .move (.c (.i .i64 0)), none⟩] [2, 3, 4])
 (.seq
 (.reg [⟨(some 8), .build [(.b false)] [], none⟩,
 ⟨(some 9), .box 78 (.t 8), none⟩,
 ⟨(some 6), .move (.t 9), none⟩] [2, 3, 4, 6])
 (.seq
 (.reg [⟨(some 10), .move (.t 6), none⟩,
 ⟨(some 11), .load true 2 (.t 2), none⟩,
 ⟨(some 12), .load true 2 (.t 3), none⟩,
 ⟨(some 13), .bslice false 26 2 [(.s []), (.s [])] 2 [(0, (.t 11)), (1, (.t 12))], none⟩,
 ⟨(some 14), .call false (.f 55) [(.t 10), (.t 13)], none⟩] [2, 3, 4, 6])
 (.seq
 (.reg [⟨(some 15), .move (.t 6), none⟩,
 ⟨(some 16), .fieldAddr 0 (.t 2), none⟩,
 ⟨(some 17), .load false 1 (.t 16), none⟩,
 ⟨(some 18), .fieldAddr 1 (.t 3), none⟩,
 ⟨(some 19), .load false 1 (.t 18), none⟩,
 ⟨(some 20), .call false (.f 56) [(.t 15), (.t 17), (.t 19)], none⟩,
 ⟨(some 7), .move (.t 20), none⟩] [2, 3, 4, 6, 7])
 (.seq
 (.reg [⟨(some 21), .move (.t 6), none⟩,
 ⟨(some 22), .move (.t 7), none⟩,
 ⟨(some 23), .move (.t 6), none⟩,
 ⟨(some 24), .fieldAddr 1 (.t 2), none⟩,
 ⟨(some 25), .load false 1 (.t 24), none⟩,
 ⟨(some 26), .fieldAddr 0 (.t 3), none⟩,
 ⟨(some 27), .load false 1 (.t 26), none⟩,
 ⟨(some 28), .call false (.f 56) [(.t 23), (.t 25), (.t 27)], none⟩,
 ⟨(some 29), .call false (.f 57) [(.t 21), (.t 22), (.t 28)], none⟩,
 ⟨(some 30), .ext (.t 29) 0, none⟩,
 ⟨(some 31), .ext (.t 29) 1, none⟩,
 ⟨none, .store 2 (.t 4) (.t 30), none⟩,
 ⟨(some 5), .move (.t 31), none⟩] [4, 5])
 (.ret)))))
def c17 : SF := ⟨32, [.cell 4 true 2, .t 5], b17, none⟩

/-- workpiece/rational.Sub -/
def h18 : Hints := ⟨[(0, [2, 3, 4]), (1, [4, 5])], []⟩
def b18 : C :=
  .seq
 (.reg [⟨(some 2), .box 26 (.t 0), none⟩,
 ⟨(some 3), .box 26 (.t 1), none⟩,
 ⟨(some 4), .alloc 26 [(.s []), (.s [])], none⟩,
 ⟨(some 5), .move (.c (.i .i64 0)), none⟩] [2, 3, 4])
 (.seq
 (.reg [⟨(some 6), .load true 2 (.t 2), none⟩,
 ⟨(some 7), .load true 2 (.t 3), none⟩,
 ⟨(some 8), .call false (.f 58) [(.f 59), (.t 6), (.t 7)], none⟩,
 ⟨(some 9), .ext (.t 8) 0, none⟩,
 ⟨(some 10), .ext (.t 8) 1, none⟩,
 ⟨none, .store 2 (.t 4) (.t 9), none⟩,
 ⟨(some 5), .move (.t 10), none⟩] [4, 5])
 (.ret))
def c18 : SF := ⟨11, [.cell 4 true 2, .t 5], b18, none⟩

/-- workpiece/rational.Mul -/
def h21 : Hints := ⟨[(0, [2, 3, 4]), (1, [2, 3, 4, 6]), (2, [2, 3, 4, 6]), (3, [2, 3, 4, 6, 7]), (4, [4, 5])], []⟩
def b21 : C :=
  .seq
 (.reg [⟨(some 2), .box 26 (.t 0), none⟩,
 ⟨(some 3), .box 26 (.t 1), none⟩,
 ⟨(some 4), .alloc 26 [(.s []), (.s [])], none⟩,
 ⟨(some 5), .move (.c (.i .i64 0)), none⟩] [2, 3, 4])
 (.seq
 (.reg [⟨(some 8), .build [(.b false)] [], none⟩,
 ⟨(some 9), .box 78 (.t 8), none⟩,
 ⟨(some 6), .move (.t 9), none⟩] [2, 3, 4, 6])
 (.seq
 (.reg [⟨(some 10), .move (.t 6), none⟩,
 ⟨(some 11), .load true 2 (.t 2), none⟩,
 ⟨(some 12), .load true 2 (.t 3), none⟩,
 ⟨(some 13), .bslice false 26 2 [(.s []), (.s [])] 2 [(0, (.t 11)), (1, (.t 12))], none⟩,
 ⟨(some 14), .call false (.f 55) [(.t 10), (.t 13)], none⟩] [2, 3, 4, 6])
 (.seq
 (.reg [⟨(some 15), .move (.t 6), none⟩,
 ⟨(some 16), .fieldAddr 0 (.t 2), none⟩,
 ⟨(some 17), .load false 1 (.t 16), none⟩,
 ⟨(some 18), .fieldAddr 0 (.t 3), none⟩,
 ⟨(some 19), .load false 1 (.t 18), none⟩,
 ⟨(some 20), .call false (.f 56) [(.t 15), (.t 17), (.t 19)], none⟩,
 ⟨(some 7), .move (.t 20), none⟩] [2, 3, 4, 6, 7])
 (.seq
 (.reg [⟨(some 21), .move (.t 6), none⟩,
 ⟨(some 22), .move (.t 7), none⟩,
 ⟨(some 23), .move (.t 6), none⟩,
 ⟨(some 24), .fieldAddr 1 (.t 2), none⟩,
 ⟨(some 25), .load false 1 (.t 24), none⟩,
 ⟨(some 26), .fieldAddr 1 (.t 3), none⟩,
 ⟨(some 27), .load false 1 (.t 26), none⟩,
 ⟨(some 28), .call false (.f 56) [(.t 23), (.t 25), (.t 27)], none⟩,
 ⟨(some 29), .call false (.f 57) [(.t 21), (.t 22), (.t 28)], none⟩,
 ⟨(some 30), .ext (.t 29) 0, none⟩,
 ⟨(some 31), .ext (.t 29) 1, none⟩,
 ⟨none, .store 2 (.t 4) (.t 30), none⟩,
 ⟨(some 5), .move (.t 31), none⟩] [4, 5])
 (.ret)))))
def c21 : SF := ⟨32, [.cell 4 true 2, .t 5], b21, none⟩

/-- workpiece/enclosure.Sqrt -/
def h22 : Hints := ⟨[(0, [2, 3, 4]), (1, [4, 5])], []⟩
def b22 : C :=
  .seq
 (.reg [⟨(some 2), .box 29 (.t 0), none⟩,
 ⟨(some 3), .box 3 (.t 1), none⟩,
 ⟨(some 4), .alloc 29 [(.s []), (.s []), (.s []), (.s [])], none⟩,
 ⟨(some 5), .move (.c (.i .i64 0)), none⟩] [2, 3, 4])
 (.seq
 (.reg [⟨(some 6), .mkF 65 [] [(.t 3), (.t 2)], none⟩,
 ⟨(some 7), .load true 4 (.t 2), none⟩,
 ⟨(some 8), .bslice false 29 4 [(.s []), (.s []), (.s []), (.s [])] 1 [(0, (.t 7))], none⟩,
 ⟨(some 9), .call false (.f 49) [(.t 6), (.t 8)], none⟩,
 ⟨(some 10), .ext (.t 9) 0, none⟩,
 ⟨(some 11), .ext (.t 9) 1, none⟩,
 ⟨none, .store 4 (.t 4) (.t 10), none⟩,
 ⟨(some 5), .move (.t 11), none⟩] [4, 5])
 (.ret))
def c22 : SF := ⟨12, [.cell 4 true 4, .t 5], b22, none⟩

/-- workpiece/enclosure.Contains -/
def h23 : Hints := ⟨[(0, [2, 3]), (1, [4])], []⟩
def b23 : C :=
  .seq
 (.reg [⟨(some 2), .box 29 (.t 0), none⟩,
 ⟨(some 3), .box 26 (.t 1), none⟩,
 ⟨(some 4), .move (.c (.b false)), none⟩] [2, 3])
 (.seq
 (.reg [⟨(some 5), .load true 4 (.t 2), none⟩,
 ⟨(some 6), .call false (.f 35) [(.t 5)], none⟩,
 ⟨(some 7), .move (.t 6), none⟩,
 ⟨(some 8), .load true 2 (.t 3), some (7, true)⟩,
 ⟨(some 9), .call false (.f 46) [(.t 8)], some (7, true)⟩,
 ⟨(some 10), .pick (.t 7) (.t 9) (.c (.b false)), none⟩,
 ⟨(some 11), .move (.t 10), none⟩,
 ⟨(some 12), .fieldAddr 0 (.t 2), some (11, true)⟩,
 ⟨(some 13), .load true 2 (.t 12), some (11, true)⟩,
 ⟨(some 14), .load true 2 (.t 3), some (11, true)⟩,
 ⟨(some 15), .call false (.f 13) [(.t 13), (.t 14)], some (11, true)⟩,
 ⟨(some 16), .bin .leq (.t 15) (.c (.i .i64 0)), some (11, true)⟩,
 ⟨(some 17), .pick (.t 11) (.t 16) (.c (.b false)), none⟩,
 ⟨(some 18), .move (.t 17), none⟩,
 ⟨(some 19), .load true 2 (.t 3), some (18, true)⟩,
 ⟨(some 20), .fieldAddr 2 (.t 2), some (18, true)⟩,
 ⟨(some 21), .load true 2 (.t 20), some (18, true)⟩,
 ⟨(some 22), .call false (.f 13) [(.t 19), (.t 21)], some (18, true)⟩,
 ⟨(some 23), .bin .leq (.t 22) (.c (.i .i64 0)), some (18, true)⟩,
 ⟨(some 24), .pick (.t 18) (.t 23) (.c (.b false)), none⟩,
 ⟨(some 4), .move (.t 24), none⟩] [4])
 (.ret))
def c23 : SF := ⟨25, [.t 4], b23, none⟩

/-- workpiece/enclosure.Meet -/
def h26 : Hints := ⟨[(0, [2, 3, 4]), (1, [4, 5])], []⟩
def b26 : C :=
  .seq
 (.reg [⟨(some 2), .box 29 (.t 0), none⟩,
 ⟨(some 3), .box 29 (.t 1), none⟩,
 ⟨(some 4), .alloc 29 [(.s []), (.s []), (.s []), (.s [])], none⟩,
 ⟨(some 5), .move (.c (.i .i64 0)), none⟩] [2, 3, 4])
 (.seq
 (.reg [⟨(some 6), .mkF 73 [] [(.t 2), (.t 3)], none⟩,
 ⟨(some 7), .load true 4 (.t 2), none⟩,
 ⟨(some 8), .load true 4 (.t 3), none⟩,
 ⟨(some 9), .bslice false 29 4 [(.s []), (.s []), (.s []), (.s [])] 2 [(0, (.t 7)), (1, (.t 8))], none⟩,
 ⟨(some 10), .call false (.f 49) [(.t 6), (.t 9)], none⟩,
 ⟨(some 11), .ext (.t 10) 0, none⟩,
 ⟨(some 12), .ext (.t 10) 1, none⟩,
 ⟨none, .store 4 (.t 4) (.t 11), none⟩,
 ⟨(some 5), .move (.t 12), none⟩] [4, 5])
 (.ret))
def c26 : SF := ⟨13, [.cell 4 true 4, .t 5], b26, none⟩

/-- workpiece/enclosure.Width -/
def h33 : Hints := ⟨[(0, [1, 2]), (1, [2, 3])], []⟩
def b33 : C :=
  .seq
 (.reg [⟨(some 1), .box 29 (.t 0), none⟩,
 ⟨(some 2), .alloc 26 [(.s []), (.s [])], none⟩,
 ⟨(some 3), .move (.c (.i .i64 0)), none⟩] [1, 2])
 (.seq
 (.reg [⟨(some 4), .mkF 93 [] [(.t 1)], none⟩,
 ⟨(some 5), .load true 4 (.t 1), none⟩,
 ⟨(some 6), .bslice false 29 4 [(.s []), (.s []), (.s []), (.s [])] 1 [(0, (.t 5))], none⟩,
 ⟨(some 7), .call false (.f 92) [(.t 4), (.t 6)], none⟩,
 ⟨(some 8), .ext (.t 7) 0, none⟩,
 ⟨(some 9), .ext (.t 7) 1, none⟩,
 ⟨none, .store 2 (.t 2) (.t 8), none⟩,
 ⟨(some 3), .move (.t 9), none⟩] [2, 3])
 (.ret))
def c33 : SF := ⟨10, [.cell 2 true 2, .t 3], b33, none⟩

/-- workpiece/enclosure.Valid -/
def h35 : Hints := ⟨[(0, [1]), (1, [2])], []⟩
def b35 : C :=
  .seq
 (.reg [⟨(some 1), .box 29 (.t 0), none⟩,
 ⟨(some 2), .move (.c (.b false)), none⟩] [1])
 (.seq
 (.reg [⟨(some 3), .fieldAddr 0 (.t 1), none⟩,
 ⟨(some 4), .load true 2 (.t 3), none⟩,
 ⟨(some 5), .call false (.f 46) [(.t 4)], none⟩,
 ⟨(some 6), .move (.t 5), none⟩,
 ⟨(some 7), .fieldAddr 2 (.t 1), some (6, true)⟩,
 ⟨(some 8), .load true 2 (.t 7), some (6, true)⟩,
 ⟨(some 9), .call false (.f 46) [(.t 8)], some (6, true)⟩,
 ⟨(some 10), .pick (.t 6) (.t 9) (.c (.b false)), none⟩,
 ⟨(some 11), .move (.t 10), none⟩,
 ⟨(some 12), .fieldAddr 0 (.t 1), some (11, true)⟩,
 ⟨(some 13), .load true 2 (.t 12), some (11, true)⟩,
 ⟨(some 14), .fieldAddr 2 (.t 1), some (11, true)⟩,
 ⟨(some 15), .load true 2 (.t 14), some (11, true)⟩,
 ⟨(some 16), .call false (.f 13) [(.t 13), (.t 15)], some (11, true)⟩,
 ⟨(some 17), .bin .leq (.t 16) (.c (.i .i64 0)), some (11, true)⟩,
 ⟨(some 18), .pick (.t 11) (.t 17) (.c (.b false)), none⟩,
 ⟨(some 2), .move (.t 18), none⟩] [2])
 (.ret))
def c35 : SF := ⟨19, [.t 2], b35, none⟩

/-- workpiece/enclosure.Point -/
def h37 : Hints := ⟨[(0, [1, 2]), (1, [1, 2, 5]), (2, [2]), (3, [2])], []⟩
def b37 : C :=
  .seq
 (.reg [⟨(some 1), .box 26 (.t 0), none⟩,
 ⟨(some 2), .alloc 29 [(.s []), (.s []), (.s []), (.s [])], none⟩] [1, 2])
 (.seq
 (.seq
 (.reg [⟨(some 3), .load true 2 (.t 1), none⟩,
 ⟨(some 4), .call false (.f 46) [(.t 3)], none⟩,
 ⟨(some 5), .un .not (.t 4), none⟩] [1, 2, 5])
 (.cond (.t 5)
 (.seq
 (.reg [⟨(some 6), .build [(.s []), (.s []), (.s []), (.s [])] [], none⟩,
 ⟨none, .store 4 (.t 2) (.t 6), none⟩] [2])
 (.ret))
 (.skip)))
 (.seq
 (.reg [⟨(some 7), .load true 2 (.t 1), none⟩,
 ⟨(some 8), .load true 2 (.t 1), none⟩,
 ⟨(some 9), .build [(.s []), (.s []), (.s []), (.s [])] [(0, 2, (.t 7)), (2, 2, (.t 8))], none⟩,
 ⟨none, .store 4 (.t 2) (.t 9), none⟩] [2])
 (.ret)))
def c37 : SF := ⟨10, [.cell 2 true 4], b37, none⟩

/-- workpiece/enclosure.Mul -/
def h41 : Hints := ⟨[(0, [2, 3, 4]), (1, [4, 5])], []⟩
def b41 : C :=
  .seq
 (.reg [⟨(some 2), .box 29 (.t 0), none⟩,
 ⟨(some 3), .box 29 (.t 1), none⟩,
 ⟨(some 4), .alloc 29 [(.s []), (.s []), (.s []), (.s [])], none⟩,
 ⟨(some 5), .move (.c (.i .i64 0)), none⟩] [2, 3, 4])
 (.seq
 (.reg [⟨(some 6), .mkF 95 [] [(.t 2), (.t 3)], none⟩,
 ⟨(some 7), .load true 4 (.t 2), none⟩,
 ⟨(some 8), .load true 4 (.t 3), none⟩,
 ⟨(some 9), .bslice false 29 4 [(.s []), (.s []), (.s []), (.s [])] 2 [(0, (.t 7)), (1, (.t 8))], none⟩,
 ⟨(some 10), .call false (.f 49) [(.t 6), (.t 9)], none⟩,
 ⟨(some 11), .ext (.t 10) 0, none⟩,
 ⟨(some 12), .ext (.t 10) 1, none⟩,
 ⟨none, .store 4 (.t 4) (.t 11), none⟩,
 ⟨(some 5), .move (.t 12), none⟩] [4, 5])
 (.ret))
def c41 : SF := ⟨13, [.cell 4 true 4, .t 5], b41, none⟩

/-- workpiece/workpiecelaw05.span -/
def h42 : Hints := ⟨[(0, [0, 1, 4]), (1, [4])], []⟩
def b42 : C :=
  .seq
 (.reg [⟨(some 4), .alloc 29 [(.s []), (.s []), (.s []), (.s [])], none⟩] [0, 1, 4])
 (.seq
 (.reg [⟨(some 5), .move (.t 0), none⟩,
 ⟨(some 6), .call false (.f 16) [(.t 5), (.c (.i .i64 1))], none⟩,
 ⟨(some 7), .move (.t 1), none⟩,
 ⟨(some 8), .call false (.f 16) [(.t 7), (.c (.i .i64 1))], none⟩,
 ⟨(some 9), .build [(.s []), (.s []), (.s []), (.s [])] [(0, 2, (.t 6)), (2, 2, (.t 8))], none⟩,
 ⟨none, .store 4 (.t 4) (.t 9), none⟩] [4])
 (.ret))
def c42 : SF := ⟨10, [.cell 4 true 4], b42, none⟩

/-- workpiece/enclosure.Div -/
def h43 : Hints := ⟨[(0, [2, 3, 4]), (1, [4, 5])], []⟩
def b43 : C :=
  .seq
 (.reg [⟨(some 2), .box 29 (.t 0), none⟩,
 ⟨(some 3), .box 29 (.t 1), none⟩,
 ⟨(some 4), .alloc 29 [(.s []), (.s []), (.s []), (.s [])], none⟩,
 ⟨(some 5), .move (.c (.i .i64 0)), none⟩] [2, 3, 4])
 (.seq
 (.reg [⟨(some 6), .mkF 97 [] [(.t 3), (.t 2)], none⟩,
 ⟨(some 7), .load true 4 (.t 2), none⟩,
 ⟨(some 8), .load true 4 (.t 3), none⟩,
 ⟨(some 9), .bslice false 29 4 [(.s []), (.s []), (.s []), (.s [])] 2 [(0, (.t 7)), (1, (.t 8))], none⟩,
 ⟨(some 10), .call false (.f 49) [(.t 6), (.t 9)], none⟩,
 ⟨(some 11), .ext (.t 10) 0, none⟩,
 ⟨(some 12), .ext (.t 10) 1, none⟩,
 ⟨none, .store 4 (.t 4) (.t 11), none⟩,
 ⟨(some 5), .move (.t 12), none⟩] [4, 5])
 (.ret))
def c43 : SF := ⟨13, [.cell 4 true 4, .t 5], b43, none⟩

/-- workpiece/workpieceref04.pick -/
def h44 : Hints := ⟨[(0, [0, 1]), (1, [0, 1, 6]), (2, [0, 1]), (3, [4])], []⟩
def b44 : C :=
  .seq
 (.reg [⟨(some 4), .move (.c (.i .i64 0)), none⟩] [0, 1])
 (.seq
 (.seq
 (.reg [⟨(some 5), .move (.t 0), none⟩,
 ⟨(some 6), .bin .lss (.t 5) (.c (.i .i64 0)), none⟩] [0, 1, 6])
 (.cond (.t 6)
 (.reg [⟨(some 7), .move (.t 0), none⟩,
 ⟨(some 8), .bin .add (.t 7) (.c (.i .i64 1)), none⟩,
 ⟨(some 9), .un .neg (.t 8), none⟩,
 ⟨(some 0), .move (.t 9), none⟩] [0, 1])
 (.skip)))
 (.seq
 (.reg [⟨(some 10), .move (.t 0), none⟩,
 ⟨(some 11), .move (.t 1), none⟩,
 ⟨(some 12), .bin .rem (.t 10) (.t 11), none⟩,
 ⟨(some 4), .move (.t 12), none⟩] [4])
 (.ret)))
def c44 : SF := ⟨13, [.t 4], b44, none⟩

/-- workpiece/workpieceref04.Make -/
def h45 : Hints := ⟨[(0, [0, 1, 4]), (1, [0, 1, 4, 6]), (2, [0, 1, 4, 6, 7]), (3, [0, 1, 4, 29]), (4, [4, 5]), (5, [0, 1, 4, 33]), (6, [0, 1, 4]), (7, [0, 1, 4]), (8, [0, 1, 4, 8]), (9, [1, 4, 8, 10, 12]), (10, [4, 10, 12, 13, 15]), (11, [4, 10, 13, 69]), (12, [4, 5]), (13, [4, 5])], []⟩
def b45 : C :=
  .seq
 (.reg [⟨(some 4), .alloc 26 [(.s []), (.s [])], none⟩,
 ⟨(some 5), .move (.c (.i .i64 0)), none⟩] [0, 1, 4])
 (.seq
 (.reg [⟨(some 16), .move (.t 0), none⟩,
 ⟨(some 17), .call false (.f 79) [(.t 16)], none⟩,
 ⟨(some 6), .move (.t 17), none⟩] [0, 1, 4, 6])
 (.seq
 (.reg [⟨(some 18), .move (.t 1), none⟩,
 ⟨(some 19), .call false (.f 79) [(.t 18)], none⟩,
 ⟨(some 7), .move (.t 19), none⟩] [0, 1, 4, 6, 7])
 (.seq
 (.seq
 (.reg [⟨(some 20), .move (.t 6), none⟩,
 ⟨(some 21), .un .not (.t 20), none⟩,
 ⟨(some 22), .move (.t 21), none⟩,
 ⟨(some 23), .move (.t 7), some (22, false)⟩,
 ⟨(some 24), .un .not (.t 23), some (22, false)⟩,
 ⟨(some 25), .pick (.t 22) (.c (.b true)) (.t 24), none⟩,
 ⟨(some 26), .move (.t 25), none⟩,
 ⟨(some 27), .move (.t 1), some (26, false)⟩,
 ⟨(some 28), .bin .eql (.t 27) (.c (.s [48])), some (26, false)⟩,
 ⟨(some 29), .pick (.t 26) (.c (.b true)) (.t 28), none⟩] [0, 1, 4, 29])
 (.cond (.t 29)
 (.seq
 (.reg [⟨(some 30), .build [(.s []), (.s [])] [], none⟩,
 ⟨none, .store 2 (.t 4) (.t 30), none⟩,
 ⟨(some 5), .move (.c (.i .i64 40)), none⟩] [4, 5])
 (.ret))
 (.skip)))
 (.seq
 (.seq
 (.reg [⟨(some 31), .move (.t 1), none⟩,
 ⟨(some 32), .call false (.f 80) [(.t 31), (.c (.s [48]))], none⟩,
 ⟨(some 33), .bin .lss (.t 32) (.c (.i .i64 0)), none⟩] [0, 1, 4, 33])
 (.cond (.t 33)
 (.seq
 (.reg [⟨(some 35), .move (.t 0), none⟩,
 ⟨(some 36), .call false (.f 78) [(.c (.s [48])), (.t 35)], none⟩,
 ⟨(some 34), .move (.t 36), none⟩,
 ⟨(some 37), .ext (.t 34) 0, none⟩,
 ⟨(some 38), .ext (.t 34) 1, none⟩,
 ⟨(some 0), .move (.t 37), none⟩] [0, 1, 4])
 (.reg [⟨(some 40), .move (.t 1), none⟩,
 ⟨(some 41), .call false (.f 78) [(.c (.s [48])), (.t 40)], none⟩,
 ⟨(some 39), .move (.t 41), none⟩,
 ⟨(some 42), .ext (.t 39) 0, none⟩,
 ⟨(some 43), .ext (.t 39) 1, none⟩,
 ⟨(some 1), .move (.t 42), none⟩] [0, 1, 4]))
 (.skip)))
 (.seq
 (.reg [⟨(some 45), .move (.t 0), none⟩,
 ⟨(some 46), .move (.t 1), none⟩,
 ⟨(some 47), .call false (.f 81) [(.t 45), (.t 46)], none⟩,
 ⟨(some 44), .move (.t 47), none⟩,
 ⟨(some 48), .ext (.t 44) 0, none⟩,
 ⟨(some 49), .ext (.t 44) 1, none⟩,
 ⟨(some 8), .move (.t 48), none⟩,
 ⟨(some 9), .move (.t 49), none⟩] [0, 1, 4, 8])
 (.seq
 (.reg [⟨(some 51), .move (.t 0), none⟩,
 ⟨(some 52), .move (.t 8), none⟩,
 ⟨(some 53), .call false (.f 98) [(.t 51), (.t 52)], none⟩,
 ⟨(some 50), .move (.t 53), none⟩,
 ⟨(some 54), .ext (.t 50) 0, none⟩,
 ⟨(some 55), .ext (.t 50) 1, none⟩,
 ⟨(some 56), .ext (.t 50) 2, none⟩,
 ⟨(some 10), .move (.t 54), none⟩,
 ⟨(some 11), .move (.t 55), none⟩,
 ⟨(some 12), .move (.t 56), none⟩] [1, 4, 8, 10, 12])
 (.seq
 (.reg [⟨(some 58), .move (.t 1), none⟩,
 ⟨(some 59), .move (.t 8), none⟩,
 ⟨(some 60), .call false (.f 98) [(.t 58), (.t 59)], none⟩,
 ⟨(some 57), .move (.t 60), none⟩,
 ⟨(some 61), .ext (.t 57) 0, none⟩,
 ⟨(some 62), .ext (.t 57) 1, none⟩,
 ⟨(some 63), .ext (.t 57) 2, none⟩,
 ⟨(some 13), .move (.t 61), none⟩,
 ⟨(some 14), .move (.t 62), none⟩,
 ⟨(some 15), .move (.t 63), none⟩] [4, 10, 12, 13, 15])
 (.seq
 (.seq
 (.reg [⟨(some 64), .move (.t 12), none⟩,
 ⟨(some 65), .bin .neq (.t 64) (.c (.i .i64 0)), none⟩,
 ⟨(some 66), .move (.t 65), none⟩,
 ⟨(some 67), .move (.t 15), some (66, false)⟩,
 ⟨(some 68), .bin .neq (.t 67) (.c (.i .i64 0)), some (66, false)⟩,
 ⟨(some 69), .pick (.t 66) (.c (.b true)) (.t 68), none⟩] [4, 10, 13, 69])
 (.cond (.t 69)
 (.seq
 (.reg [⟨(some 70), .build [(.s []), (.s [])] [], none⟩,
 ⟨none, .store 2 (.t 4) (.t 70), none⟩,
 ⟨(some 5), .move (.c (.i .i64 40)), none⟩] [4, 5])
 (.ret))
 (.skip)))
 (.seq
 (.reg [⟨(some 71), .move (.t 10), none⟩,
 ⟨(some 72), .move (.t 13), none⟩,
 ⟨(some 73), .build [(.s []), (.s [])] [(0, 1, (.t 71)), (1, 1, (.t 72))], none⟩,
 ⟨none, .store 2 (.t 4) (.t 73), none⟩,
 ⟨(some 5), .move (.c (.i .i64 0)), none⟩] [4, 5])
 (.ret))))))))))
def c45 : SF := ⟨74, [.cell 4 true 2, .t 5], b45, none⟩

/-- workpiece/rational.Valid -/
def h46 : Hints := ⟨[(0, [1]), (1, [1, 20]), (2, [2]), (3, [3, 4]), (4, [2])], []⟩
def b46 : C :=
  .seq
 (.reg [⟨(some 1), .box 26 (.t 0), none⟩,
 ⟨(some 2), .move (.c (.b false)), none⟩] [1])
 (.seq
 (.seq
 (.reg [⟨(some 5), .fieldAddr 0 (.t 1), none⟩,
 ⟨(some 6), .load false 1 (.t 5), none⟩,
 ⟨(some 7), .call false (.f 99) [(.t 6)], none⟩,
 ⟨(some 8), .un .not (.t 7), none⟩,
 ⟨(some 9), .move (.t 8), none⟩,
 ⟨(some 10), .fieldAddr 1 (.t 1), some (9, false)⟩,
 ⟨(some 11), .load false 1 (.t 10), some (9, false)⟩,
 ⟨(some 12), .call false (.f 99) [(.t 11)], some (9, false)⟩,
 ⟨(some 13), .un .not (.t 12), some (9, false)⟩,
 ⟨(some 14), .pick (.t 9) (.c (.b true)) (.t 13), none⟩,
 ⟨(some 15), .move (.t 14), none⟩,
 ⟨(some 16), .fieldAddr 1 (.t 1), some (15, false)⟩,
 ⟨(some 17), .load false 1 (.t 16), some (15, false)⟩,
 ⟨(some 18), .call false (.f 48) [(.t 17), (.c (.s [48]))], some (15, false)⟩,
 ⟨(some 19), .bin .leq (.t 18) (.c (.i .i64 0)), some (15, false)⟩,
 ⟨(some 20), .pick (.t 15) (.c (.b true)) (.t 19), none⟩] [1, 20])
 (.cond (.t 20)
 (.seq
 (.reg [⟨(some 2), .move (.c (.b false)), none⟩] [2])
 (.ret))
 (.skip)))
 (.seq
 (.reg [⟨(some 22), .fieldAddr 0 (.t 1), none⟩,
 ⟨(some 23), .load false 1 (.t 22), none⟩,
 ⟨(some 24), .fieldAddr 1 (.t 1), none⟩,
 ⟨(some 25), .load false 1 (.t 24), none⟩,
 ⟨(some 26), .call false (.f 100) [(.t 23), (.t 25)], none⟩,
 ⟨(some 21), .move (.t 26), none⟩,
 ⟨(some 27), .ext (.t 21) 0, none⟩,
 ⟨(some 28), .ext (.t 21) 1, none⟩,
 ⟨(some 3), .move (.t 27), none⟩,
 ⟨(some 4), .move (.t 28), none⟩] [3, 4])
 (.seq
 (.reg [⟨(some 29), .move (.t 4), none⟩,
 ⟨(some 30), .bin .eql (.t 29) (.c (.i .i64 0)), none⟩,
 ⟨(some 31), .move (.t 30), none⟩,
 ⟨(some 32), .move (.t 3), some (31, true)⟩,
 ⟨(some 33), .bin .eql (.t 32) (.c (.s [49])), some (31, true)⟩,
 ⟨(some 34), .pick (.t 31) (.t 33) (.c (.b false)), none⟩,
 ⟨(some 2), .move (.t 34), none⟩] [2])
 (.ret))))
def c46 : SF := ⟨35, [.t 2], b46, none⟩

/-- workpiece/integer.Div -/
def h47 : Hints := ⟨[(0, [0, 1]), (1, [7, 8, 9]), (2, [7, 8, 30]), (3, [4, 5, 6]), (4, [7, 8, 10, 11]), (5, [7, 8, 10, 11, 45]), (6, [7, 8, 10, 11]), (7, [11, 12, 13]), (8, [11, 12, 13, 65]), (9, [4, 5, 6]), (10, [12, 14]), (11, [4, 5, 6])], []⟩
def b47 : C :=
  .seq
 (.reg [⟨(some 4), .move (.c (.s [])), none⟩,
 ⟨(some 5), .move (.c (.s [])), none⟩,
 ⟨(some 6), .move (.c (.i .i64 0)), none⟩] [0, 1])
 (.seq
 (.reg [⟨(some 17), .move (.t 0), none⟩,
 ⟨(some 18), .move (.t 1), none⟩,
 ⟨(some 19), .call false (.f 101) [(.t 17), (.t 18)], none⟩,
 ⟨(some 16), .move (.t 19), none⟩,
 ⟨(some 20), .ext (.t 16) 0, none⟩,
 ⟨(some 21), .ext (.t 16) 1, none⟩,
 ⟨(some 22), .ext (.t 16) 2, none⟩,
 ⟨(some 7), .alloc 103 [(.b false), (.ls [])], none⟩,
 ⟨(some 8), .alloc 103 [(.b false), (.ls [])], none⟩,
 ⟨none, .store 2 (.t 7) (.t 20), none⟩,
 ⟨none, .store 2 (.t 8) (.t 21), none⟩,
 ⟨(some 9), .move (.t 22), none⟩] [7, 8, 9])
 (.seq
 (.seq
 (.reg [⟨(some 23), .move (.t 9), none⟩,
 ⟨(some 24), .un .not (.t 23), none⟩,
 ⟨(some 25), .move (.t 24), none⟩,
 ⟨(some 26), .fieldAddr 1 (.t 8), some (25, false)⟩,
 ⟨(some 27), .load false 1 (.t 26), some (25, false)⟩,
 ⟨(some 28), .len false (.t 27), some (25, false)⟩,
 ⟨(some 29), .bin .eql (.t 28) (.c (.i .i64 0)), some (25, false)⟩,
 ⟨(some 30), .pick (.t 25) (.c (.b true)) (.t 29), none⟩] [7, 8, 30])
 (.cond (.t 30)
 (.seq
 (.reg [⟨(some 4), .move (.c (.s [])), none⟩,
 ⟨(some 5), .move (.c (.s [])), none⟩,
 ⟨(some 6), .move (.c (.i .i64 30)), none⟩] [4, 5, 6])
 (.ret))
 (.skip)))
 (.seq
 (.reg [⟨(some 32), .fieldAddr 1 (.t 7), none⟩,
 ⟨(some 33), .load false 1 (.t 32), none⟩,
 ⟨(some 34), .fieldAddr 1 (.t 8), none⟩,
 ⟨(some 35), .load false 1 (.t 34), none⟩,
 ⟨(some 36), .call false (.f 102) [(.t 33), (.t 35)], none⟩,
 ⟨(some 31), .move (.t 36), none⟩,
 ⟨(some 37), .ext (.t 31) 0, none⟩,
 ⟨(some 38), .ext (.t 31) 1, none⟩,
 ⟨(some 10), .move (.t 37), none⟩,
 ⟨(some 11), .move (.t 38), none⟩] [7, 8, 10, 11])
 (.seq
 (.seq
 (.reg [⟨(some 39), .fieldAddr 0 (.t 7), none⟩,
 ⟨(some 40), .load false 1 (.t 39), none⟩,
 ⟨(some 41), .move (.t 40), none⟩,
 ⟨(some 42), .move (.t 11), some (41, true)⟩,
 ⟨(some 43), .len false (.t 42), some (41, true)⟩,
 ⟨(some 44), .bin .gtr (.t 43) (.c (.i .i64 0)), some (41, true)⟩,
 ⟨(some 45), .pick (.t 41) (.t 44) (.c (.b false)), none⟩] [7, 8, 10, 11, 45])
 (.cond (.t 45)
 (.draw [⟨0, ⟨(some 46), .move (.t 10), none⟩, 0, []⟩,
 ⟨3, ⟨(some 49), .fieldAddr 1 (.t 8), none⟩, 0, []⟩,
 ⟨4, ⟨(some 50), .load false 1 (.t 49), none⟩, 0, []⟩,
 ⟨5, ⟨(some 51), .move (.t 11), none⟩, 0, []⟩,
 ⟨1, ⟨(some 47), .call false (.f 104) [], none⟩, 1, [4]⟩,
 ⟨2, ⟨(some 48), .call false (.f 103) [(.t 46), (.t 47)], none⟩, 1, [4]⟩,
 ⟨6, ⟨(some 52), .call false (.f 105) [(.t 50), (.t 51)], none⟩, 1, []⟩,
 ⟨7, ⟨(some 10), .move (.t 48), none⟩, 0, []⟩,
 ⟨8, ⟨(some 11), .move (.t 52), none⟩, 0, []⟩] [7, 8, 10, 11])
 (.skip)))
 (.seq
 (.reg [⟨(some 54), .fieldAddr 0 (.t 7), none⟩,
 ⟨(some 55), .load false 1 (.t 54), none⟩,
 ⟨(some 56), .fieldAddr 0 (.t 8), none⟩,
 ⟨(some 57), .load false 1 (.t 56), none⟩,
 ⟨(some 58), .eqB true (.t 55) (.t 57), none⟩,
 ⟨(some 59), .move (.t 10), none⟩,
 ⟨(some 60), .build [(.b false), (.ls [])] [(0, 1, (.t 58)), (1, 1, (.t 59))], none⟩,
 ⟨(some 61), .call false (.f 106) [(.t 60)], none⟩,
 ⟨(some 53), .move (.t 61), none⟩,
 ⟨(some 62), .ext (.t 53) 0, none⟩,
 ⟨(some 63), .ext (.t 53) 1, none⟩,
 ⟨(some 12), .move (.t 62), none⟩,
 ⟨(some 13), .move (.t 63), none⟩] [11, 12, 13])
 (.seq
 (.seq
 (.reg [⟨(some 64), .move (.t 13), none⟩,
 ⟨(some 65), .bin .neq (.t 64) (.c (.i .i64 0)), none⟩] [11, 12, 13, 65])
 (.cond (.t 65)
 (.seq
 (.reg [⟨(some 66), .move (.t 13), none⟩,
 ⟨(some 4), .move (.c (.s [])), none⟩,
 ⟨(some 5), .move (.c (.s [])), none⟩,
 ⟨(some 6), .move (.t 66), none⟩] [4, 5, 6])
 (.ret))
 (.skip)))
 (.seq
 (.reg [⟨(some 68), .move (.t 11), none⟩,
 ⟨(some 69), .build [(.b false), (.ls [])] [(1, 1, (.t 68))], none⟩,
 ⟨(some 70), .call false (.f 106) [(.t 69)], none⟩,
 ⟨(some 67), .move (.t 70), none⟩,
 ⟨(some 71), .ext (.t 67) 0, none⟩,
 ⟨(some 72), .ext (.t 67) 1, none⟩,
 ⟨(some 14), .move (.t 71), none⟩,
 ⟨(some 15), .move (.t 72), none⟩] [12, 14])
 (.seq
 (.reg [⟨(some 73), .move (.t 12), none⟩,
 ⟨(some 74), .move (.t 14), none⟩,
 ⟨(some 4), .move (.t 73), none⟩,
 ⟨(some 5), .move (.t 74), none⟩,
 ⟨(some 6), .move (.c (.i .i64 0)), none⟩] [4, 5, 6])
 (.ret)))))))))
def c47 : SF := ⟨75, [.t 4, .t 5, .t 6], b47, none⟩

/-- workpiece/integer.Compare -/
def h48 : Hints := ⟨[(0, [0, 1]), (1, [5, 6, 7]), (2, [5, 6, 15]), (4, [5, 6, 18]), (6, [5, 6, 30]), (8, [5, 6, 33]), (9, [4]), (7, [4]), (5, [4]), (3, [4]), (10, [4])], []⟩
def b48 : C :=
  .seq
 (.reg [⟨(some 4), .move (.c (.i .i64 0)), none⟩] [0, 1])
 (.seq
 (.reg [⟨(some 9), .move (.t 0), none⟩,
 ⟨(some 10), .move (.t 1), none⟩,
 ⟨(some 11), .call false (.f 101) [(.t 9), (.t 10)], none⟩,
 ⟨(some 8), .move (.t 11), none⟩,
 ⟨(some 12), .ext (.t 8) 0, none⟩,
 ⟨(some 13), .ext (.t 8) 1, none⟩,
 ⟨(some 14), .ext (.t 8) 2, none⟩,
 ⟨(some 5), .alloc 103 [(.b false), (.ls [])], none⟩,
 ⟨(some 6), .alloc 103 [(.b false), (.ls [])], none⟩,
 ⟨none, .store 2 (.t 5) (.t 12), none⟩,
 ⟨none, .store 2 (.t 6) (.t 13), none⟩,
 ⟨(some 7), .move (.t 14), none⟩] [5, 6, 7])
 (.seq
 (.block 0 (.seq
 (.reg [⟨(some 16), .move (.t 7), none⟩,
 ⟨(some 17), .un .not (.t 16), none⟩,
 ⟨(some 15), .move (.t 17), none⟩] [5, 6, 15])
 (.cond (.t 15)
 (.seq
 (.reg [⟨(some 4), .move (.c (.i .i64 0)), none⟩] [4])
 (.ret))
 (.seq
 (.reg [⟨(some 19), .fieldAddr 0 (.t 5), none⟩,
 ⟨(some 20), .load false 1 (.t 19), none⟩,
 ⟨(some 21), .move (.t 20), none⟩,
 ⟨(some 22), .fieldAddr 0 (.t 6), some (21, true)⟩,
 ⟨(some 23), .load false 1 (.t 22), some (21, true)⟩,
 ⟨(some 24), .pick (.t 21) (.t 23) (.c (.b false)), none⟩,
 ⟨(some 18), .move (.t 24), none⟩] [5, 6, 18])
 (.cond (.t 18)
 (.seq
 (.reg [⟨(some 25), .fieldAddr 1 (.t 6), none⟩,
 ⟨(some 26), .load false 1 (.t 25), none⟩,
 ⟨(some 27), .fieldAddr 1 (.t 5), none⟩,
 ⟨(some 28), .load false 1 (.t 27), none⟩,
 ⟨(some 29), .call false (.f 107) [(.t 26), (.t 28)], none⟩,
 ⟨(some 4), .move (.t 29), none⟩] [4])
 (.ret))
 (.seq
 (.reg [⟨(some 31), .fieldAddr 0 (.t 5), none⟩,
 ⟨(some 32), .load false 1 (.t 31), none⟩,
 ⟨(some 30), .move (.t 32), none⟩] [5, 6, 30])
 (.cond (.t 30)
 (.seq
 (.reg [⟨(some 4), .move (.c (.i .i64 (-1))), none⟩] [4])
 (.ret))
 (.seq
 (.reg [⟨(some 34), .fieldAddr 0 (.t 6), none⟩,
 ⟨(some 35), .load false 1 (.t 34), none⟩,
 ⟨(some 33), .move (.t 35), none⟩] [5, 6, 33])
 (.cond (.t 33)
 (.seq
 (.reg [⟨(some 4), .move (.c (.i .i64 1)), none⟩] [4])
 (.ret))
 (.skip))))))))))
 (.seq
 (.reg [⟨(some 36), .fieldAddr 1 (.t 5), none⟩,
 ⟨(some 37), .load false 1 (.t 36), none⟩,
 ⟨(some 38), .fieldAddr 1 (.t 6), none⟩,
 ⟨(some 39), .load false 1 (.t 38), none⟩,
 ⟨(some 40), .call false (.f 107) [(.t 37), (.t 39)], none⟩,
 ⟨(some 4), .move (.t 40), none⟩] [4])
 (.ret))))
def c48 : SF := ⟨41, [.t 4], b48, none⟩

/-- workpiece/enclosure.compute[workpiece/api.Interval] -/
def h49 : Hints := ⟨[(0, [0, 1, 4, 5]), (1, [0, 1, 4, 5]), (2, [0, 4, 5]), (3, [4, 5])], []⟩
def b49 : C :=
  .seq
 (.reg [⟨(some 4), .alloc 29 [(.s []), (.s []), (.s []), (.s [])], none⟩,
 ⟨(some 5), .alloc 31 [(.i .i64 0)], none⟩] [0, 1, 4, 5])
 (.skip)
def r49 : C :=
  .seq
 (.reg [⟨(some 7), .move (.t 1), none⟩,
 ⟨(some 8), .call false (.f 110) [(.t 7), (.f 111)], none⟩,
 ⟨(some 9), .un .not (.t 8), none⟩,
 ⟨(some 10), .call false (.f 67) [(.t 9)], none⟩] [0, 4, 5])
 (.seq
 (.reg [⟨(some 11), .move (.t 0), none⟩,
 ⟨(some 12), .call false (.t 11) [], none⟩,
 ⟨none, .store 4 (.t 4) (.t 12), none⟩,
 ⟨none, .store 1 (.t 5) (.c (.i .i64 0)), none⟩] [4, 5])
 (.ret))
def c49 : SF := ⟨13, [.cell 4 true 4, .cell 5 false 1], b49, some ⟨[⟨(some 6), .mkF 108 [] [(.t 4), (.t 5)], none⟩], (.t 6), [], r49⟩⟩

/-- workpiece/enclosure.Round$1 -/
def h50 : Hints := ⟨[(0, [0, 1, 2]), (1, [2])], []⟩
def b50 : C :=
  .seq
 (.reg [⟨(some 2), .alloc 29 [(.s []), (.s []), (.s []), (.s [])], none⟩] [0, 1, 2])
 (.seq
 (.draw [⟨0, ⟨(some 3), .fieldAddr 0 (.t 0), none⟩, 0, []⟩,
 ⟨1, ⟨(some 4), .load true 2 (.t 3), none⟩, 0, []⟩,
 ⟨2, ⟨(some 5), .load false 1 (.t 1), none⟩, 0, []⟩,
 ⟨7, ⟨(some 10), .fieldAddr 2 (.t 0), none⟩, 0, []⟩,
 ⟨8, ⟨(some 11), .load true 2 (.t 10), none⟩, 0, []⟩,
 ⟨9, ⟨(some 12), .load false 1 (.t 1), none⟩, 0, []⟩,
 ⟨3, ⟨(some 6), .call false (.f 52) [(.t 4), (.t 5)], none⟩, 1, [9, 8]⟩,
 ⟨4, ⟨(some 7), .ext (.t 6) 0, none⟩, 0, []⟩,
 ⟨5, ⟨(some 8), .ext (.t 6) 1, none⟩, 0, []⟩,
 ⟨6, ⟨(some 9), .call false (.f 51) [(.t 7), (.t 8)], none⟩, 1, [9, 8]⟩,
 ⟨10, ⟨(some 13), .call false (.f 53) [(.t 11), (.t 12)], none⟩, 1, []⟩,
 ⟨11, ⟨(some 14), .ext (.t 13) 0, none⟩, 0, []⟩,
 ⟨12, ⟨(some 15), .ext (.t 13) 1, none⟩, 0, []⟩,
 ⟨13, ⟨(some 16), .call false (.f 51) [(.t 14), (.t 15)], none⟩, 1, []⟩,
 ⟨14, ⟨(some 17), .build [(.s []), (.s []), (.s []), (.s [])] [(0, 2, (.t 9)), (2, 2, (.t 16))], none⟩, 0, []⟩,
 ⟨15, ⟨none, .store 4 (.t 2) (.t 17), none⟩, 1, []⟩] [2])
 (.ret))
def c50 : SF := ⟨18, [.cell 2 true 4], b50, none⟩

/-- workpiece/enclosure.must[workpiece/api.Ratio] -/
def h51 : Hints := ⟨[(0, [1, 2, 4]), (1, [2, 4]), (2, [4])], []⟩
def b51 : C :=
  .seq
 (.reg [⟨(some 2), .box 26 (.t 0), none⟩,
 ⟨(some 4), .alloc 26 [(.s []), (.s [])], none⟩] [1, 2, 4])
 (.seq
 (.reg [⟨(some 5), .move (.t 1), none⟩,
 ⟨(some 6), .bin .eql (.t 5) (.c (.i .i64 0)), none⟩,
 ⟨(some 7), .call false (.f 67) [(.t 6)], none⟩] [2, 4])
 (.seq
 (.reg [⟨(some 8), .load true 2 (.t 2), none⟩,
 ⟨none, .store 2 (.t 4) (.t 8), none⟩] [4])
 (.ret)))
def c51 : SF := ⟨9, [.cell 4 true 2], b51, none⟩

/-- workpiece/rational.Down -/
def h52 : Hints := ⟨[(0, [1, 2, 4]), (1, [4, 5])], []⟩
def b52 : C :=
  .seq
 (.reg [⟨(some 2), .box 26 (.t 0), none⟩,
 ⟨(some 4), .alloc 26 [(.s []), (.s [])], none⟩,
 ⟨(some 5), .move (.c (.i .i64 0)), none⟩] [1, 2, 4])
 (.seq
 (.reg [⟨(some 6), .load true 2 (.t 2), none⟩,
 ⟨(some 7), .move (.t 1), none⟩,
 ⟨(some 8), .call false (.f 112) [(.t 6), (.t 7), (.c (.b false))], none⟩,
 ⟨(some 9), .ext (.t 8) 0, none⟩,
 ⟨(some 10), .ext (.t 8) 1, none⟩,
 ⟨none, .store 2 (.t 4) (.t 9), none⟩,
 ⟨(some 5), .move (.t 10), none⟩] [4, 5])
 (.ret))
def c52 : SF := ⟨11, [.cell 4 true 2, .t 5], b52, none⟩

/-- workpiece/rational.Up -/
def h53 : Hints := ⟨[(0, [1, 2, 4]), (1, [4, 5])], []⟩
def b53 : C :=
  .seq
 (.reg [⟨(some 2), .box 26 (.t 0), none⟩,
 ⟨(some 4), .alloc 26 [(.s []), (.s [])], none⟩,
 ⟨(some 5), .move (.c (.i .i64 0)), none⟩] [1, 2, 4])
 (.seq
 (.reg [⟨(some 6), .load true 2 (.t 2), none⟩,
 ⟨(some 7), .move (.t 1), none⟩,
 ⟨(some 8), .call false (.f 112) [(.t 6), (.t 7), (.c (.b true))], none⟩,
 ⟨(some 9), .ext (.t 8) 0, none⟩,
 ⟨(some 10), .ext (.t 8) 1, none⟩,
 ⟨none, .store 2 (.t 4) (.t 9), none⟩,
 ⟨(some 5), .move (.t 10), none⟩] [4, 5])
 (.ret))
def c53 : SF := ⟨11, [.cell 4 true 2, .t 5], b53, none⟩

/-- workpiece/workpieceref04.Of -/
def h54 : Hints := ⟨[(0, [0, 1, 4]), (1, [4, 5])], []⟩
def b54 : C :=
  .seq
 (.reg [⟨(some 4), .alloc 26 [(.s []), (.s [])], none⟩,
 ⟨(some 5), .move (.c (.i .i64 0)), none⟩] [0, 1, 4])
 (.seq
 (.reg [⟨(some 6), .move (.t 0), none⟩,
 ⟨(some 7), .call false (.f 113) [(.t 6)], none⟩,
 ⟨(some 8), .move (.t 1), none⟩,
 ⟨(some 9), .call false (.f 113) [(.t 8)], none⟩,
 ⟨(some 10), .call false (.f 45) [(.t 7), (.t 9)], none⟩,
 ⟨(some 11), .ext (.t 10) 0, none⟩,
 ⟨(some 12), .ext (.t 10) 1, none⟩,
 ⟨none, .store 2 (.t 4) (.t 11), none⟩,
 ⟨(some 5), .move (.t 12), none⟩] [4, 5])
 (.ret))
def c54 : SF := ⟨13, [.cell 4 true 2, .t 5], b54, none⟩

/-- (*workpiece/rational.work).check -/
def h55 : Hints := ⟨[(0, [0, 6, 7, 8]), (1, [0, 6, 7, 8, 9]), (2, [0, 5, 6, 7, 8]), (3, [0, 6, 7, 8]), (4, [0, 6, 7, 8])], []⟩
def l55_0 : C :=
  .seq
 (.reg [⟨(some 9), .bin .lss (.t 8) (.t 7), none⟩] [0, 6, 7, 8, 9])
 (.seq
 (.cond (.t 9)
 (.skip)
 (.exit 0))
 (.seq
 (.block 1 (.seq
 (.reg [⟨(some 10), .ixS 2 (.t 6) (.t 8), none⟩,
 ⟨(some 11), .load true 2 (.t 10), none⟩,
 ⟨(some 5), .alloc 26 [(.s []), (.s [])], none⟩,
 ⟨none, .store 2 (.t 5) (.t 11), none⟩] [0, 5, 6, 7, 8])
 (.reg [⟨(some 12), .move (.t 0), none⟩,
 ⟨(some 13), .move (.t 0), none⟩,
 ⟨(some 14), .nilCheck (.t 13), none⟩,
 ⟨(some 15), .fieldAddr 0 (.t 14), none⟩,
 ⟨(some 16), .load false 1 (.t 15), none⟩,
 ⟨(some 17), .move (.t 16), none⟩,
 ⟨(some 18), .load true 2 (.t 5), some (17, false)⟩,
 ⟨(some 19), .call false (.f 46) [(.t 18)], some (17, false)⟩,
 ⟨(some 20), .un .not (.t 19), some (17, false)⟩,
 ⟨(some 21), .pick (.t 17) (.c (.b true)) (.t 20), none⟩,
 ⟨(some 22), .nilCheck (.t 12), none⟩,
 ⟨(some 23), .fieldAddr 0 (.t 22), none⟩,
 ⟨none, .store 1 (.t 23) (.t 21), none⟩] [0, 6, 7, 8])))
 (.reg [⟨(some 24), .bin .add (.t 8) (.c (.i .i64 1)), none⟩,
 ⟨(some 8), .move (.t 24), none⟩] [0, 6, 7, 8])))
def b55 : C :=
  .seq
 (.reg [⟨(some 6), .move (.t 1), none⟩,
 ⟨(some 7), .len false (.t 6), none⟩,
 ⟨(some 8), .move (.c (.i .i64 0)), none⟩] [0, 6, 7, 8])
 (.block 0 (.loop l55_0))
def c55 : SF := ⟨25, [], b55, none⟩

/-- (*workpiece/rational.work).mul -/
def h56 : Hints := ⟨[(0, [0, 1, 2]), (1, [6])], []⟩
def b56 : C :=
  .seq
 (.reg [⟨(some 6), .move (.c (.s [])), none⟩] [0, 1, 2])
 (.seq
 (.reg [⟨(some 7), .move (.t 0), none⟩,
 ⟨(some 8), .move (.t 1), none⟩,
 ⟨(some 9), .move (.t 2), none⟩,
 ⟨(some 10), .call false (.f 114) [(.t 7), (.f 115), (.t 8), (.t 9)], none⟩,
 ⟨(some 6), .move (.t 10), none⟩] [6])
 (.ret))
def c56 : SF := ⟨11, [.t 6], b56, none⟩

/-- (*workpiece/rational.work).reduced -/
def h57 : Hints := ⟨[(0, [0, 1, 2, 6]), (1, [0, 1, 2, 6, 17]), (2, [6, 7]), (3, [0, 1, 2, 6, 21]), (4, [0, 1, 2, 6]), (5, [0, 1, 2, 6, 8]), (6, [0, 6, 9]), (7, [6, 9, 44]), (8, [6, 7]), (9, [6, 7])], []⟩
def b57 : C :=
  .seq
 (.reg [⟨(some 6), .alloc 26 [(.s []), (.s [])], none⟩,
 ⟨(some 7), .move (.c (.i .i64 0)), none⟩] [0, 1, 2, 6])
 (.seq
 (.seq
 (.reg [⟨(some 10), .move (.t 0), none⟩,
 ⟨(some 11), .nilCheck (.t 10), none⟩,
 ⟨(some 12), .fieldAddr 0 (.t 11), none⟩,
 ⟨(some 13), .load false 1 (.t 12), none⟩,
 ⟨(some 14), .move (.t 13), none⟩,
 ⟨(some 15), .move (.t 2), some (14, false)⟩,
 ⟨(some 16), .bin .eql (.t 15) (.c (.s [48])), some (14, false)⟩,
 ⟨(some 17), .pick (.t 14) (.c (.b true)) (.t 16), none⟩] [0, 1, 2, 6, 17])
 (.cond (.t 17)
 (.seq
 (.reg [⟨(some 18), .build [(.s []), (.s [])] [], none⟩,
 ⟨none, .store 2 (.t 6) (.t 18), none⟩,
 ⟨(some 7), .move (.c (.i .i64 40)), none⟩] [6, 7])
 (.ret))
 (.skip)))
 (.seq
 (.seq
 (.reg [⟨(some 19), .move (.t 2), none⟩,
 ⟨(some 20), .call false (.f 48) [(.t 19), (.c (.s [48]))], none⟩,
 ⟨(some 21), .bin .lss (.t 20) (.c (.i .i64 0)), none⟩] [0, 1, 2, 6, 21])
 (.cond (.t 21)
 (.reg [⟨(some 22), .move (.t 0), none⟩,
 ⟨(some 23), .move (.t 1), none⟩,
 ⟨(some 24), .call false (.f 114) [(.t 22), (.f 59), (.c (.s [48])), (.t 23)], none⟩,
 ⟨(some 25), .move (.t 0), none⟩,
 ⟨(some 26), .move (.t 2), none⟩,
 ⟨(some 27), .call false (.f 114) [(.t 25), (.f 59), (.c (.s [48])), (.t 26)], none⟩,
 ⟨(some 1), .move (.t 24), none⟩,
 ⟨(some 2), .move (.t 27), none⟩] [0, 1, 2, 6])
 (.skip)))
 (.seq
 (.reg [⟨(some 28), .move (.t 0), none⟩,
 ⟨(some 29), .move (.t 1), none⟩,
 ⟨(some 30), .move (.t 2), none⟩,
 ⟨(some 31), .call false (.f 114) [(.t 28), (.f 100), (.t 29), (.t 30)], none⟩,
 ⟨(some 8), .move (.t 31), none⟩] [0, 1, 2, 6, 8])
 (.seq
 (.reg [⟨(some 32), .move (.t 0), none⟩,
 ⟨(some 33), .move (.t 1), none⟩,
 ⟨(some 34), .move (.t 8), none⟩,
 ⟨(some 35), .call false (.f 116) [(.t 32), (.t 33), (.t 34)], none⟩,
 ⟨(some 36), .move (.t 0), none⟩,
 ⟨(some 37), .move (.t 2), none⟩,
 ⟨(some 38), .move (.t 8), none⟩,
 ⟨(some 39), .call false (.f 116) [(.t 36), (.t 37), (.t 38)], none⟩,
 ⟨(some 40), .build [(.s []), (.s [])] [(0, 1, (.t 35)), (1, 1, (.t 39))], none⟩,
 ⟨(some 9), .alloc 26 [(.s []), (.s [])], none⟩,
 ⟨none, .store 2 (.t 9) (.t 40), none⟩] [0, 6, 9])
 (.seq
 (.seq
 (.reg [⟨(some 41), .move (.t 0), none⟩,
 ⟨(some 42), .nilCheck (.t 41), none⟩,
 ⟨(some 43), .fieldAddr 0 (.t 42), none⟩,
 ⟨(some 44), .load false 1 (.t 43), none⟩] [6, 9, 44])
 (.cond (.t 44)
 (.seq
 (.reg [⟨(some 45), .build [(.s []), (.s [])] [], none⟩,
 ⟨none, .store 2 (.t 6) (.t 45), none⟩,
 ⟨(some 7), .move (.c (.i .i64 40)), none⟩] [6, 7])
 (.ret))
 (.skip)))
 (.seq
 (.reg [⟨(some 46), .load true 2 (.t 9), none⟩,
 ⟨none, .store 2 (.t 6) (.t 46), none⟩,
 ⟨(some 7), .move (.c (.i .i64 0)), none⟩] [6, 7])
 (.ret)))))))
def c57 : SF := ⟨47, [.cell 6 true 2, .t 7], b57, none⟩

/-- workpiece/rational.sum -/
def h58 : Hints := ⟨[(0, [0, 4, 5, 6]), (1, [0, 4, 5, 6, 8]), (2, [0, 4, 5, 6, 8]), (3, [4, 5, 6, 8, 9]), (4, [6, 7])], []⟩
def b58 : C :=
  .seq
 (.reg [⟨(some 4), .box 26 (.t 1), none⟩,
 ⟨(some 5), .box 26 (.t 2), none⟩,
 ⟨(some 6), .alloc 26 [(.s []), (.s [])], none⟩,
 ⟨(some 7), .move (.c (.i .i64 0)), none⟩] [0, 4, 5, 6])
 (.seq
 (.reg [⟨(some 10), .build [(.b false)] [], none⟩,
 ⟨(some 11), .box 78 (.t 10), none⟩,
 ⟨(some 8), .move (.t 11), none⟩] [0, 4, 5, 6, 8])
 (.seq
 (.reg [⟨(some 12), .move (.t 8), none⟩,
 ⟨(some 13), .load true 2 (.t 4), none⟩,
 ⟨(some 14), .load true 2 (.t 5), none⟩,
 ⟨(some 15), .bslice false 26 2 [(.s []), (.s [])] 2 [(0, (.t 13)), (1, (.t 14))], none⟩,
 ⟨(some 16), .call false (.f 55) [(.t 12), (.t 15)], none⟩] [0, 4, 5, 6, 8])
 (.seq
 (.draw [⟨0, ⟨(some 17), .move (.t 8), none⟩, 0, []⟩,
 ⟨1, ⟨(some 18), .move (.t 0), none⟩, 0, []⟩,
 ⟨2, ⟨(some 19), .move (.t 8), none⟩, 0, []⟩,
 ⟨3, ⟨(some 20), .fieldAddr 0 (.t 4), none⟩, 0, []⟩,
 ⟨4, ⟨(some 21), .load false 1 (.t 20), none⟩, 0, []⟩,
 ⟨5, ⟨(some 22), .fieldAddr 1 (.t 5), none⟩, 0, []⟩,
 ⟨6, ⟨(some 23), .load false 1 (.t 22), none⟩, 0, []⟩,
 ⟨8, ⟨(some 25), .move (.t 8), none⟩, 0, []⟩,
 ⟨9, ⟨(some 26), .fieldAddr 0 (.t 5), none⟩, 0, []⟩,
 ⟨10, ⟨(some 27), .load false 1 (.t 26), none⟩, 0, []⟩,
 ⟨11, ⟨(some 28), .fieldAddr 1 (.t 4), none⟩, 0, []⟩,
 ⟨12, ⟨(some 29), .load false 1 (.t 28), none⟩, 0, []⟩,
 ⟨7, ⟨(some 24), .call false (.f 56) [(.t 19), (.t 21), (.t 23)], none⟩, 1, [12, 10]⟩,
 ⟨13, ⟨(some 30), .call false (.f 56) [(.t 25), (.t 27), (.t 29)], none⟩, 1, []⟩,
 ⟨14, ⟨(some 31), .call false (.f 114) [(.t 17), (.t 18), (.t 24), (.t 30)], none⟩, 1, []⟩,
 ⟨15, ⟨(some 9), .move (.t 31), none⟩, 0, []⟩] [4, 5, 6, 8, 9])
 (.seq
 (.reg [⟨(some 32), .move (.t 8), none⟩,
 ⟨(some 33), .move (.t 9), none⟩,
 ⟨(some 34), .move (.t 8), none⟩,
 ⟨(some 35), .fieldAddr 1 (.t 4), none⟩,
 ⟨(some 36), .load false 1 (.t 35), none⟩,
 ⟨(some 37), .fieldAddr 1 (.t 5), none⟩,
 ⟨(some 38), .load false 1 (.t 37), none⟩,
 ⟨(some 39), .call false (.f 56) [(.t 34), (.t 36), (.t 38)], none⟩,
 ⟨(some 40), .call false (.f 57) [(.t 32), (.t 33), (.t 39)], none⟩,
 ⟨(some 41), .ext (.t 40) 0, none⟩,
 ⟨(some 42), .ext (.t 40) 1, none⟩,
 ⟨none, .store 2 (.t 6) (.t 41), none⟩,
 ⟨(some 7), .move (.t 42), none⟩] [6, 7])
 (.ret)))))
def c58 : SF := ⟨43, [.cell 6 true 2, .t 7], b58, none⟩

/-- workpiece/integer.Sub -/
def h59 : Hints := ⟨[(0, [0, 1]), (1, [6, 7, 8]), (2, [6, 7, 17]), (3, [4, 5]), (4, [6, 7]), (5, [4, 5])], []⟩
def b59 : C :=
  .seq
 (.reg [⟨(some 4), .move (.c (.s [])), none⟩,
 ⟨(some 5), .move (.c (.i .i64 0)), none⟩] [0, 1])
 (.seq
 (.reg [⟨(some 10), .move (.t 0), none⟩,
 ⟨(some 11), .move (.t 1), none⟩,
 ⟨(some 12), .call false (.f 101) [(.t 10), (.t 11)], none⟩,
 ⟨(some 9), .move (.t 12), none⟩,
 ⟨(some 13), .ext (.t 9) 0, none⟩,
 ⟨(some 14), .ext (.t 9) 1, none⟩,
 ⟨(some 15), .ext (.t 9) 2, none⟩,
 ⟨(some 6), .alloc 103 [(.b false), (.ls [])], none⟩,
 ⟨(some 7), .alloc 103 [(.b false), (.ls [])], none⟩,
 ⟨none, .store 2 (.t 6) (.t 13), none⟩,
 ⟨none, .store 2 (.t 7) (.t 14), none⟩,
 ⟨(some 8), .move (.t 15), none⟩] [6, 7, 8])
 (.seq
 (.seq
 (.reg [⟨(some 16), .move (.t 8), none⟩,
 ⟨(some 17), .un .not (.t 16), none⟩] [6, 7, 17])
 (.cond (.t 17)
 (.seq
 (.reg [⟨(some 4), .move (.c (.s [])), none⟩,
 ⟨(some 5), .move (.c (.i .i64 30)), none⟩] [4, 5])
 (.ret))
 (.skip)))
 (.seq
 (.reg [⟨(some 18), .fieldAddr 0 (.t 7), none⟩,
 ⟨(some 19), .load false 1 (.t 18), none⟩,
 ⟨(some 20), .un .not (.t 19), none⟩,
 ⟨(some 21), .fieldAddr 0 (.t 7), none⟩,
 ⟨none, .store 1 (.t 21) (.t 20), none⟩] [6, 7])
 (.seq
 (.reg [⟨(some 22), .load true 2 (.t 6), none⟩,
 ⟨(some 23), .load true 2 (.t 7), none⟩,
 ⟨(some 24), .call false (.f 117) [(.t 22), (.t 23)], none⟩,
 ⟨(some 25), .call false (.f 106) [(.t 24)], none⟩,
 ⟨(some 26), .ext (.t 25) 0, none⟩,
 ⟨(some 27), .ext (.t 25) 1, none⟩,
 ⟨(some 4), .move (.t 26), none⟩,
 ⟨(some 5), .move (.t 27), none⟩] [4, 5])
 (.ret)))))
def c59 : SF := ⟨28, [.t 4, .t 5], b59, none⟩

/-- workpiece/enclosure.Sqrt$1 -/
def h65 : Hints := ⟨[(0, [0, 1, 2]), (1, [1, 2, 3]), (2, [1, 2, 3]), (3, [1, 2, 3, 4]), (4, [2, 3, 4, 6, 7]), (5, [2, 3, 4, 6, 31]), (6, [2, 3, 4, 6]), (7, [2])], []⟩
def b65 : C :=
  .seq
 (.reg [⟨(some 2), .alloc 29 [(.s []), (.s []), (.s []), (.s [])], none⟩] [0, 1, 2])
 (.seq
 (.reg [⟨(some 8), .load false 1 (.t 0), none⟩,
 ⟨(some 9), .call false (.f 66) [(.t 8)], none⟩,
 ⟨(some 3), .alloc 85 [(.i .i64 0), (.s [])], none⟩,
 ⟨none, .store 2 (.t 3) (.t 9), none⟩] [1, 2, 3])
 (.seq
 (.draw [⟨0, ⟨(some 10), .fieldAddr 0 (.t 1), none⟩, 0, []⟩,
 ⟨1, ⟨(some 11), .load true 2 (.t 10), none⟩, 0, []⟩,
 ⟨2, ⟨(some 12), .call false (.f 68) [], none⟩, 1, [1]⟩,
 ⟨3, ⟨(some 13), .call false (.f 13) [(.t 11), (.t 12)], none⟩, 1, []⟩,
 ⟨4, ⟨(some 14), .bin .geq (.t 13) (.c (.i .i64 0)), none⟩, 0, []⟩,
 ⟨5, ⟨(some 15), .call false (.f 67) [(.t 14)], none⟩, 1, []⟩] [1, 2, 3])
 (.seq
 (.reg [⟨(some 17), .load true 2 (.t 3), none⟩,
 ⟨(some 18), .fieldAddr 0 (.t 1), none⟩,
 ⟨(some 19), .load true 2 (.t 18), none⟩,
 ⟨(some 20), .call false (.f 69) [(.t 17), (.t 19)], none⟩,
 ⟨(some 16), .move (.t 20), none⟩,
 ⟨(some 21), .ext (.t 16) 0, none⟩,
 ⟨(some 22), .ext (.t 16) 1, none⟩,
 ⟨(some 4), .move (.t 21), none⟩,
 ⟨(some 5), .move (.t 22), none⟩] [1, 2, 3, 4])
 (.seq
 (.reg [⟨(some 24), .load true 2 (.t 3), none⟩,
 ⟨(some 25), .fieldAddr 2 (.t 1), none⟩,
 ⟨(some 26), .load true 2 (.t 25), none⟩,
 ⟨(some 27), .call false (.f 69) [(.t 24), (.t 26)], none⟩,
 ⟨(some 23), .move (.t 27), none⟩,
 ⟨(some 28), .ext (.t 23) 0, none⟩,
 ⟨(some 29), .ext (.t 23) 1, none⟩,
 ⟨(some 6), .move (.t 28), none⟩,
 ⟨(some 7), .move (.t 29), none⟩] [2, 3, 4, 6, 7])
 (.seq
 (.seq
 (.reg [⟨(some 30), .move (.t 7), none⟩,
 ⟨(some 31), .un .not (.t 30), none⟩] [2, 3, 4, 6, 31])
 (.cond (.t 31)
 (.reg [⟨(some 32), .move (.t 6), none⟩,
 ⟨(some 33), .call false (.f 71) [(.t 32), (.c (.s [49]))], none⟩,
 ⟨(some 34), .ext (.t 33) 0, none⟩,
 ⟨(some 35), .ext (.t 33) 1, none⟩,
 ⟨(some 36), .call false (.f 70) [(.t 34), (.t 35)], none⟩,
 ⟨(some 6), .move (.t 36), none⟩] [2, 3, 4, 6])
 (.skip)))
 (.seq
 (.draw [⟨0, ⟨(some 37), .move (.t 4), none⟩, 0, []⟩,
 ⟨1, ⟨(some 38), .fieldAddr 1 (.t 3), none⟩, 0, []⟩,
 ⟨2, ⟨(some 39), .load false 1 (.t 38), none⟩, 0, []⟩,
 ⟨7, ⟨(some 44), .move (.t 6), none⟩, 0, []⟩,
 ⟨8, ⟨(some 45), .fieldAddr 1 (.t 3), none⟩, 0, []⟩,
 ⟨9, ⟨(some 46), .load false 1 (.t 45), none⟩, 0, []⟩,
 ⟨3, ⟨(some 40), .call false (.f 72) [(.t 37), (.t 39)], none⟩, 1, [9]⟩,
 ⟨4, ⟨(some 41), .ext (.t 40) 0, none⟩, 0, []⟩,
 ⟨5, ⟨(some 42), .ext (.t 40) 1, none⟩, 0, []⟩,
 ⟨6, ⟨(some 43), .call false (.f 51) [(.t 41), (.t 42)], none⟩, 1, [9]⟩,
 ⟨10, ⟨(some 47), .call false (.f 72) [(.t 44), (.t 46)], none⟩, 1, []⟩,
 ⟨11, ⟨(some 48), .ext (.t 47) 0, none⟩, 0, []⟩,
 ⟨12, ⟨(some 49), .ext (.t 47) 1, none⟩, 0, []⟩,
 ⟨13, ⟨(some 50), .call false (.f 51) [(.t 48), (.t 49)], none⟩, 1, []⟩,
 ⟨14, ⟨(some 51), .build [(.s []), (.s []), (.s []), (.s [])] [(0, 2, (.t 43)), (2, 2, (.t 50))], none⟩, 0, []⟩,
 ⟨15, ⟨none, .store 4 (.t 2) (.t 51), none⟩, 1, []⟩] [2])
 (.ret)))))))
def c65 : SF := ⟨52, [.cell 2 true 4], b65, none⟩

/-- workpiece/enclosure.newGrid -/
def h66 : Hints := ⟨[(0, [0, 2]), (1, [0, 2]), (2, [2])], []⟩
def b66 : C :=
  .seq
 (.reg [⟨(some 2), .alloc 85 [(.i .i64 0), (.s [])], none⟩] [0, 2])
 (.seq
 (.reg [⟨(some 3), .move (.t 0), none⟩,
 ⟨(some 4), .bin .geq (.t 3) (.c (.i .i64 0)), none⟩,
 ⟨(some 5), .move (.t 4), none⟩,
 ⟨(some 6), .move (.t 0), some (5, true)⟩,
 ⟨(some 7), .bin .leq (.t 6) (.c (.i .i64 30)), some (5, true)⟩,
 ⟨(some 8), .pick (.t 5) (.t 7) (.c (.b false)), none⟩,
 ⟨(some 9), .call false (.f 67) [(.t 8)], none⟩] [0, 2])
 (.seq
 (.reg [⟨(some 10), .move (.t 0), none⟩,
 ⟨(some 11), .move (.t 0), none⟩,
 ⟨(some 12), .call false (.f 120) [(.c (.s [48])), (.t 11)], none⟩,
 ⟨(some 13), .bin .add (.c (.s [49])) (.t 12), none⟩,
 ⟨(some 14), .build [(.i .i64 0), (.s [])] [(0, 1, (.t 10)), (1, 1, (.t 13))], none⟩,
 ⟨none, .store 2 (.t 2) (.t 14), none⟩] [2])
 (.ret)))
def c66 : SF := ⟨15, [.cell 2 true 2], b66, none⟩

/-- workpiece/enclosure.check -/
def h67 : Hints := ⟨[(0, [3]), (1, [])], []⟩
def b67 : C :=
  .seq
 (.reg [⟨(some 2), .move (.t 0), none⟩,
 ⟨(some 3), .un .not (.t 2), none⟩] [3])
 (.cond (.t 3)
 (.reg [⟨(some 4), .load false 1 (.g 0), none⟩,
 ⟨none, .panic (.t 4), none⟩] [])
 (.skip))
def c67 : SF := ⟨5, [], b67, none⟩

/-- workpiece/enclosure.zero -/
def h68 : Hints := ⟨[(0, [0]), (1, [0])], []⟩
def b68 : C :=
  .seq
 (.reg [⟨(some 0), .alloc 26 [(.s []), (.s [])], none⟩] [0])
 (.seq
 (.reg [⟨(some 1), .build [(.s []), (.s [])] [(0, 1, (.c (.s [48]))), (1, 1, (.c (.s [49])))], none⟩,
 ⟨none, .store 2 (.t 0) (.t 1), none⟩] [0])
 (.ret))
def c68 : SF := ⟨2, [.cell 0 true 2], b68, none⟩

/-- (workpiece/enclosure.grid).root -/
def h69 : Hints := ⟨[(0, [2, 3]), (1, [3, 6]), (2, [7, 8, 9]), (3, [7, 8]), (4, [7, 8, 10]), (5, [4, 5])], []⟩
def b69 : C :=
  .seq
 (.reg [⟨(some 2), .box 85 (.t 0), none⟩,
 ⟨(some 3), .box 26 (.t 1), none⟩,
 ⟨(some 4), .move (.c (.s [])), none⟩,
 ⟨(some 5), .move (.c (.b false)), none⟩] [2, 3])
 (.seq
 (.draw [⟨0, ⟨(some 11), .fieldAddr 0 (.t 3), none⟩, 0, []⟩,
 ⟨1, ⟨(some 12), .load false 1 (.t 11), none⟩, 0, []⟩,
 ⟨2, ⟨(some 13), .fieldAddr 1 (.t 2), none⟩, 0, []⟩,
 ⟨3, ⟨(some 14), .load false 1 (.t 13), none⟩, 0, []⟩,
 ⟨8, ⟨(some 19), .fieldAddr 1 (.t 2), none⟩, 0, []⟩,
 ⟨9, ⟨(some 20), .load false 1 (.t 19), none⟩, 0, []⟩,
 ⟨4, ⟨(some 15), .call false (.f 115) [(.t 12), (.t 14)], none⟩, 1, [9]⟩,
 ⟨5, ⟨(some 16), .ext (.t 15) 0, none⟩, 0, []⟩,
 ⟨6, ⟨(some 17), .ext (.t 15) 1, none⟩, 0, []⟩,
 ⟨7, ⟨(some 18), .call false (.f 70) [(.t 16), (.t 17)], none⟩, 1, [9]⟩,
 ⟨10, ⟨(some 21), .call false (.f 115) [(.t 18), (.t 20)], none⟩, 1, []⟩,
 ⟨11, ⟨(some 22), .ext (.t 21) 0, none⟩, 0, []⟩,
 ⟨12, ⟨(some 23), .ext (.t 21) 1, none⟩, 0, []⟩,
 ⟨13, ⟨(some 24), .call false (.f 70) [(.t 22), (.t 23)], none⟩, 1, []⟩,
 ⟨14, ⟨(some 6), .move (.t 24), none⟩, 0, []⟩] [3, 6])
 (.seq
 (.reg [⟨(some 26), .move (.t 6), none⟩,
 ⟨(some 27), .fieldAddr 1 (.t 3), none⟩,
 ⟨(some 28), .load false 1 (.t 27), none⟩,
 ⟨(some 29), .call false (.f 47) [(.t 26), (.t 28)], none⟩,
 ⟨(some 25), .move (.t 29), none⟩,
 ⟨(some 30), .ext (.t 25) 0, none⟩,
 ⟨(some 31), .ext (.t 25) 1, none⟩,
 ⟨(some 32), .ext (.t 25) 2, none⟩,
 ⟨(some 7), .move (.t 30), none⟩,
 ⟨(some 8), .move (.t 31), none⟩,
 ⟨(some 9), .move (.t 32), none⟩] [7, 8, 9])
 (.seq
 (.reg [⟨(some 33), .move (.t 9), none⟩,
 ⟨(some 34), .bin .eql (.t 33) (.c (.i .i64 0)), none⟩,
 ⟨(some 35), .call false (.f 67) [(.t 34)], none⟩] [7, 8])
 (.seq
 (.reg [⟨(some 36), .move (.t 7), none⟩,
 ⟨(some 37), .call false (.f 121) [(.t 36)], none⟩,
 ⟨(some 38), .ext (.t 37) 0, none⟩,
 ⟨(some 39), .ext (.t 37) 1, none⟩,
 ⟨(some 40), .call false (.f 70) [(.t 38), (.t 39)], none⟩,
 ⟨(some 10), .move (.t 40), none⟩] [7, 8, 10])
 (.seq
 (.reg [⟨(some 41), .move (.t 10), none⟩,
 ⟨(some 42), .move (.t 8), none⟩,
 ⟨(some 43), .bin .eql (.t 42) (.c (.s [48])), none⟩,
 ⟨(some 44), .move (.t 43), none⟩,
 ⟨(some 45), .move (.t 10), some (44, true)⟩,
 ⟨(some 46), .move (.t 10), some (44, true)⟩,
 ⟨(some 47), .call false (.f 115) [(.t 45), (.t 46)], some (44, true)⟩,
 ⟨(some 48), .ext (.t 47) 0, some (44, true)⟩,
 ⟨(some 49), .ext (.t 47) 1, some (44, true)⟩,
 ⟨(some 50), .call false (.f 70) [(.t 48), (.t 49)], some (44, true)⟩,
 ⟨(some 51), .move (.t 7), some (44, true)⟩,
 ⟨(some 52), .bin .eql (.t 50) (.t 51), some (44, true)⟩,
 ⟨(some 53), .pick (.t 44) (.t 52) (.c (.b false)), none⟩,
 ⟨(some 4), .move (.t 41), none⟩,
 ⟨(some 5), .move (.t 53), none⟩] [4, 5])
 (.ret))))))
def c69 : SF := ⟨54, [.t 4, .t 5], b69, none⟩

/-- workpiece/enclosure.must[string] -/
def h70 : Hints := ⟨[(0, [0, 1]), (1, [0]), (2, [4])], []⟩
def b70 : C :=
  .seq
 (.reg [⟨(some 4), .move (.c (.s [])), none⟩] [0, 1])
 (.seq
 (.reg [⟨(some 5), .move (.t 1), none⟩,
 ⟨(some 6), .bin .eql (.t 5) (.c (.i .i64 0)), none⟩,
 ⟨(some 7), .call false (.f 67) [(.t 6)], none⟩] [0])
 (.seq
 (.reg [⟨(some 8), .move (.t 0), none⟩,
 ⟨(some 4), .move (.t 8), none⟩] [4])
 (.ret)))
def c70 : SF := ⟨9, [.t 4], b70, none⟩

/-- workpiece/integer.Add -/
def h71 : Hints := ⟨[(0, [0, 1]), (1, [6, 7, 8]), (2, [6, 7, 17]), (3, [4, 5]), (4, [4, 5])], []⟩
def b71 : C :=
  .seq
 (.reg [⟨(some 4), .move (.c (.s [])), none⟩,
 ⟨(some 5), .move (.c (.i .i64 0)), none⟩] [0, 1])
 (.seq
 (.reg [⟨(some 10), .move (.t 0), none⟩,
 ⟨(some 11), .move (.t 1), none⟩,
 ⟨(some 12), .call false (.f 101) [(.t 10), (.t 11)], none⟩,
 ⟨(some 9), .move (.t 12), none⟩,
 ⟨(some 13), .ext (.t 9) 0, none⟩,
 ⟨(some 14), .ext (.t 9) 1, none⟩,
 ⟨(some 15), .ext (.t 9) 2, none⟩,
 ⟨(some 6), .alloc 103 [(.b false), (.ls [])], none⟩,
 ⟨(some 7), .alloc 103 [(.b false), (.ls [])], none⟩,
 ⟨none, .store 2 (.t 6) (.t 13), none⟩,
 ⟨none, .store 2 (.t 7) (.t 14), none⟩,
 ⟨(some 8), .move (.t 15), none⟩] [6, 7, 8])
 (.seq
 (.seq
 (.reg [⟨(some 16), .move (.t 8), none⟩,
 ⟨(some 17), .un .not (.t 16), none⟩] [6, 7, 17])
 (.cond (.t 17)
 (.seq
 (.reg [⟨(some 4), .move (.c (.s [])), none⟩,
 ⟨(some 5), .move (.c (.i .i64 30)), none⟩] [4, 5])
 (.ret))
 (.skip)))
 (.seq
 (.reg [⟨(some 18), .load true 2 (.t 6), none⟩,
 ⟨(some 19), .load true 2 (.t 7), none⟩,
 ⟨(some 20), .call false (.f 117) [(.t 18), (.t 19)], none⟩,
 ⟨(some 21), .call false (.f 106) [(.t 20)], none⟩,
 ⟨(some 22), .ext (.t 21) 0, none⟩,
 ⟨(some 23), .ext (.t 21) 1, none⟩,
 ⟨(some 4), .move (.t 22), none⟩,
 ⟨(some 5), .move (.t 23), none⟩] [4, 5])
 (.ret))))
def c71 : SF := ⟨24, [.t 4, .t 5], b71, none⟩

/-- workpiece/rational.Make -/
def h72 : Hints := ⟨[(0, [0, 1, 4]), (1, [0, 1, 4, 6]), (2, [4, 5])], []⟩
def b72 : C :=
  .seq
 (.reg [⟨(some 4), .alloc 26 [(.s []), (.s [])], none⟩,
 ⟨(some 5), .move (.c (.i .i64 0)), none⟩] [0, 1, 4])
 (.seq
 (.reg [⟨(some 7), .move (.t 0), none⟩,
 ⟨(some 8), .call false (.f 99) [(.t 7)], none⟩,
 ⟨(some 9), .un .not (.t 8), none⟩,
 ⟨(some 10), .move (.t 9), none⟩,
 ⟨(some 11), .move (.t 1), some (10, false)⟩,
 ⟨(some 12), .call false (.f 99) [(.t 11)], some (10, false)⟩,
 ⟨(some 13), .un .not (.t 12), some (10, false)⟩,
 ⟨(some 14), .pick (.t 10) (.c (.b true)) (.t 13), none⟩,
 ⟨(some 15), .build [(.b false)] [(0, 1, (.t 14))], none⟩,
 ⟨(some 16), .box 78 (.t 15), none⟩,
 ⟨(some 6), .move (.t 16), none⟩] [0, 1, 4, 6])
 (.seq
 (.reg [⟨(some 17), .move (.t 6), none⟩,
 ⟨(some 18), .move (.t 0), none⟩,
 ⟨(some 19), .move (.t 1), none⟩,
 ⟨(some 20), .call false (.f 57) [(.t 17), (.t 18), (.t 19)], none⟩,
 ⟨(some 21), .ext (.t 20) 0, none⟩,
 ⟨(some 22), .ext (.t 20) 1, none⟩,
 ⟨none, .store 2 (.t 4) (.t 21), none⟩,
 ⟨(some 5), .move (.t 22), none⟩] [4, 5])
 (.ret)))
def c72 : SF := ⟨23, [.cell 4 true 2, .t 5], b72, none⟩

/-- workpiece/enclosure.Meet$1 -/
def h73 : Hints := ⟨[(0, [0, 1, 2]), (1, [2, 3]), (2, [2, 3]), (3, [2])], []⟩
def b73 : C :=
  .seq
 (.reg [⟨(some 2), .alloc 29 [(.s []), (.s []), (.s []), (.s [])], none⟩] [0, 1, 2])
 (.seq
 (.draw [⟨0, ⟨(some 4), .fieldAddr 0 (.t 0), none⟩, 0, []⟩,
 ⟨1, ⟨(some 5), .load true 2 (.t 4), none⟩, 0, []⟩,
 ⟨2, ⟨(some 6), .fieldAddr 0 (.t 1), none⟩, 0, []⟩,
 ⟨3, ⟨(some 7), .load true 2 (.t 6), none⟩, 0, []⟩,
 ⟨4, ⟨(some 8), .bslice false 26 2 [(.s []), (.s [])] 2 [(0, (.t 5)), (1, (.t 7))], none⟩, 0, []⟩,
 ⟨7, ⟨(some 11), .fieldAddr 2 (.t 0), none⟩, 0, []⟩,
 ⟨8, ⟨(some 12), .load true 2 (.t 11), none⟩, 0, []⟩,
 ⟨9, ⟨(some 13), .fieldAddr 2 (.t 1), none⟩, 0, []⟩,
 ⟨10, ⟨(some 14), .load true 2 (.t 13), none⟩, 0, []⟩,
 ⟨11, ⟨(some 15), .bslice false 26 2 [(.s []), (.s [])] 2 [(0, (.t 12)), (1, (.t 14))], none⟩, 0, []⟩,
 ⟨5, ⟨(some 9), .call false (.f 74) [(.t 8)], none⟩, 1, [10, 8]⟩,
 ⟨6, ⟨(some 10), .field true 2 2 (.t 9), none⟩, 0, []⟩,
 ⟨12, ⟨(some 16), .call false (.f 74) [(.t 15)], none⟩, 1, []⟩,
 ⟨13, ⟨(some 17), .field true 2 0 (.t 16), none⟩, 0, []⟩,
 ⟨14, ⟨(some 18), .build [(.s []), (.s []), (.s []), (.s [])] [(0, 2, (.t 10)), (2, 2, (.t 17))], none⟩, 0, []⟩,
 ⟨15, ⟨(some 3), .alloc 29 [(.s []), (.s []), (.s []), (.s [])], none⟩, 2, []⟩,
 ⟨16, ⟨none, .store 4 (.t 3) (.t 18), none⟩, 1, []⟩] [2, 3])
 (.seq
 (.reg [⟨(some 19), .load true 4 (.t 3), none⟩,
 ⟨(some 20), .call false (.f 35) [(.t 19)], none⟩,
 ⟨(some 21), .call false (.f 67) [(.t 20)], none⟩] [2, 3])
 (.seq
 (.reg [⟨(some 22), .load true 4 (.t 3), none⟩,
 ⟨none, .store 4 (.t 2) (.t 22), none⟩] [2])
 (.ret))))
def c73 : SF := ⟨23, [.cell 2 true 4], b73, none⟩

/-- workpiece/enclosure.hull -/
def h74 : Hints := ⟨[(0, [0, 2]), (1, [2])], []⟩
def b74 : C :=
  .seq
 (.reg [⟨(some 2), .alloc 29 [(.s []), (.s []), (.s []), (.s [])], none⟩] [0, 2])
 (.seq
 (.reg [⟨(some 3), .move (.t 0), none⟩,
 ⟨(some 4), .call false (.f 122) [(.t 3), (.f 13)], none⟩,
 ⟨(some 5), .move (.t 0), none⟩,
 ⟨(some 6), .call false (.f 123) [(.t 5), (.f 13)], none⟩,
 ⟨(some 7), .build [(.s []), (.s []), (.s []), (.s [])] [(0, 2, (.t 4)), (2, 2, (.t 6))], none⟩,
 ⟨none, .store 4 (.t 2) (.t 7), none⟩] [2])
 (.ret))
def c74 : SF := ⟨8, [.cell 2 true 4], b74, none⟩

/-- workpiece/workpieceref03.Sub -/
def h78 : Hints := ⟨[(0, [0, 1]), (1, [0, 1, 17]), (2, [4, 5]), (3, [1, 6, 7]), (4, [6, 7, 8, 9]), (5, [4, 5])], []⟩
def b78 : C :=
  .seq
 (.reg [⟨(some 4), .move (.c (.s [])), none⟩,
 ⟨(some 5), .move (.c (.i .i64 0)), none⟩] [0, 1])
 (.seq
 (.seq
 (.reg [⟨(some 10), .move (.t 0), none⟩,
 ⟨(some 11), .call false (.f 79) [(.t 10)], none⟩,
 ⟨(some 12), .un .not (.t 11), none⟩,
 ⟨(some 13), .move (.t 12), none⟩,
 ⟨(some 14), .move (.t 1), some (13, false)⟩,
 ⟨(some 15), .call false (.f 79) [(.t 14)], some (13, false)⟩,
 ⟨(some 16), .un .not (.t 15), some (13, false)⟩,
 ⟨(some 17), .pick (.t 13) (.c (.b true)) (.t 16), none⟩] [0, 1, 17])
 (.cond (.t 17)
 (.seq
 (.reg [⟨(some 4), .move (.c (.s [])), none⟩,
 ⟨(some 5), .move (.c (.i .i64 30)), none⟩] [4, 5])
 (.ret))
 (.skip)))
 (.seq
 (.reg [⟨(some 19), .move (.t 0), none⟩,
 ⟨(some 20), .call false (.f 124) [(.t 19)], none⟩,
 ⟨(some 18), .move (.t 20), none⟩,
 ⟨(some 21), .ext (.t 18) 0, none⟩,
 ⟨(some 22), .ext (.t 18) 1, none⟩,
 ⟨(some 6), .move (.t 21), none⟩,
 ⟨(some 7), .move (.t 22), none⟩] [1, 6, 7])
 (.seq
 (.reg [⟨(some 24), .move (.t 1), none⟩,
 ⟨(some 25), .call false (.f 124) [(.t 24)], none⟩,
 ⟨(some 23), .move (.t 25), none⟩,
 ⟨(some 26), .ext (.t 23) 0, none⟩,
 ⟨(some 27), .ext (.t 23) 1, none⟩,
 ⟨(some 8), .move (.t 26), none⟩,
 ⟨(some 9), .move (.t 27), none⟩] [6, 7, 8, 9])
 (.seq
 (.reg [⟨(some 28), .move (.t 6), none⟩,
 ⟨(some 29), .move (.t 7), none⟩,
 ⟨(some 30), .move (.t 8), none⟩,
 ⟨(some 31), .un .not (.t 30), none⟩,
 ⟨(some 32), .move (.t 9), none⟩,
 ⟨(some 33), .call false (.f 125) [(.t 28), (.t 29), (.t 31), (.t 32)], none⟩,
 ⟨(some 34), .ext (.t 33) 0, none⟩,
 ⟨(some 35), .ext (.t 33) 1, none⟩,
 ⟨(some 4), .move (.t 34), none⟩,
 ⟨(some 5), .move (.t 35), none⟩] [4, 5])
 (.ret)))))
def c78 : SF := ⟨36, [.t 4, .t 5], b78, none⟩

/-- workpiece/workpieceref03.Valid -/
def h79 : Hints := ⟨[(0, [0]), (1, [0, 11]), (2, [0]), (3, [0, 15]), (4, [2]), (5, [0, 3]), (6, [0, 3, 19]), (8, [0, 3, 31]), (9, [2]), (7, [0, 3]), (10, [2])], []⟩
def l79_0 : C :=
  .seq
 (.seq
 (.reg [⟨(some 16), .move (.t 3), none⟩,
 ⟨(some 17), .move (.t 0), none⟩,
 ⟨(some 18), .len true (.t 17), none⟩,
 ⟨(some 19), .bin .lss (.t 16) (.t 18), none⟩] [0, 3, 19])
 (.cond (.t 19)
 (.skip)
 (.exit 0)))
 (.seq
 (.block 1 (.seq
 (.reg [⟨(some 22), .move (.t 0), none⟩,
 ⟨(some 23), .move (.t 3), none⟩,
 ⟨(some 24), .ixStr (.t 22) (.t 23), none⟩,
 ⟨(some 25), .bin .lss (.t 24) (.c (.i .u8 48)), none⟩,
 ⟨(some 26), .move (.t 25), none⟩,
 ⟨(some 27), .move (.t 0), some (26, false)⟩,
 ⟨(some 28), .move (.t 3), some (26, false)⟩,
 ⟨(some 29), .ixStr (.t 27) (.t 28), some (26, false)⟩,
 ⟨(some 30), .bin .gtr (.t 29) (.c (.i .u8 57)), some (26, false)⟩,
 ⟨(some 31), .pick (.t 26) (.c (.b true)) (.t 30), none⟩] [0, 3, 31])
 (.cond (.t 31)
 (.seq
 (.reg [⟨(some 2), .move (.c (.b false)), none⟩] [2])
 (.ret))
 (.skip))))
 (.reg [⟨(some 20), .move (.t 3), none⟩,
 ⟨(some 21), .bin .add (.t 20) (.c (.i .i64 1)), none⟩,
 ⟨(some 3), .move (.t 21), none⟩] [0, 3]))
def b79 : C :=
  .seq
 (.reg [⟨(some 2), .move (.c (.b false)), none⟩] [0])
 (.seq
 (.seq
 (.reg [⟨(some 4), .move (.t 0), none⟩,
 ⟨(some 5), .len true (.t 4), none⟩,
 ⟨(some 6), .bin .gtr (.t 5) (.c (.i .i64 0)), none⟩,
 ⟨(some 7), .move (.t 6), none⟩,
 ⟨(some 8), .move (.t 0), some (7, true)⟩,
 ⟨(some 9), .ixStr (.t 8) (.c (.i .i64 0)), some (7, true)⟩,
 ⟨(some 10), .bin .eql (.t 9) (.c (.i .u8 45)), some (7, true)⟩,
 ⟨(some 11), .pick (.t 7) (.t 10) (.c (.b false)), none⟩] [0, 11])
 (.cond (.t 11)
 (.seq
 (.reg [⟨(some 12), .move (.t 0), none⟩,
 ⟨(some 13), .slS (.t 12) (some (.c (.i .i64 1))) none, none⟩,
 ⟨(some 0), .move (.t 13), none⟩] [0])
 (.seq
 (.reg [⟨(some 14), .move (.t 0), none⟩,
 ⟨(some 15), .bin .eql (.t 14) (.c (.s [48])), none⟩] [0, 15])
 (.cond (.t 15)
 (.seq
 (.reg [⟨(some 2), .move (.c (.b false)), none⟩] [2])
 (.ret))
 (.skip))))
 (.skip)))
 (.seq
 (.seq
 (.reg [⟨(some 3), .move (.c (.i .i64 0)), none⟩] [0, 3])
 (.block 0 (.loop l79_0)))
 (.seq
 (.reg [⟨(some 32), .move (.t 0), none⟩,
 ⟨(some 33), .len true (.t 32), none⟩,
 ⟨(some 34), .bin .gtr (.t 33) (.c (.i .i64 0)), none⟩,
 ⟨(some 35), .move (.t 34), none⟩,
 ⟨(some 36), .move (.t 0), some (35, true)⟩,
 ⟨(some 37), .len true (.t 36), some (35, true)⟩,
 ⟨(some 38), .bin .leq (.t 37) (.c (.i .i64 200)), some (35, true)⟩,
 ⟨(some 39), .pick (.t 35) (.t 38) (.c (.b false)), none⟩,
 ⟨(some 40), .move (.t 39), none⟩,
 ⟨(some 41), .move (.t 0), some (40, true)⟩,
 ⟨(some 42), .bin .eql (.t 41) (.c (.s [48])), some (40, true)⟩,
 ⟨(some 43), .move (.t 42), some (40, true)⟩,
 ⟨(some 44), .move (.t 0), some (43, false)⟩,
 ⟨(some 45), .ixStr (.t 44) (.c (.i .i64 0)), some (43, false)⟩,
 ⟨(some 46), .bin .neq (.t 45) (.c (.i .u8 48)), some (43, false)⟩,
 ⟨(some 47), .pick (.t 43) (.c (.b true)) (.t 46), some (40, true)⟩,
 ⟨(some 48), .pick (.t 40) (.t 47) (.c (.b false)), none⟩,
 ⟨(some 2), .move (.t 48), none⟩] [2])
 (.ret))))
def c79 : SF := ⟨49, [.t 2], b79, none⟩

/-- workpiece/workpieceref03.Compare -/
def h80 : Hints := ⟨[(0, [0, 1]), (1, [0, 1, 16]), (2, [4]), (3, [1, 5, 6]), (4, [5, 6, 7, 8]), (5, [5, 6, 8, 29]), (6, [30]), (7, [4]), (8, [4]), (9, [6, 8, 31]), (10, [4]), (11, [4])], []⟩
def b80 : C :=
  .seq
 (.reg [⟨(some 4), .move (.c (.i .i64 0)), none⟩] [0, 1])
 (.seq
 (.seq
 (.reg [⟨(some 9), .move (.t 0), none⟩,
 ⟨(some 10), .call false (.f 79) [(.t 9)], none⟩,
 ⟨(some 11), .un .not (.t 10), none⟩,
 ⟨(some 12), .move (.t 11), none⟩,
 ⟨(some 13), .move (.t 1), some (12, false)⟩,
 ⟨(some 14), .call false (.f 79) [(.t 13)], some (12, false)⟩,
 ⟨(some 15), .un .not (.t 14), some (12, false)⟩,
 ⟨(some 16), .pick (.t 12) (.c (.b true)) (.t 15), none⟩] [0, 1, 16])
 (.cond (.t 16)
 (.seq
 (.reg [⟨(some 4), .move (.c (.i .i64 0)), none⟩] [4])
 (.ret))
 (.skip)))
 (.seq
 (.reg [⟨(some 18), .move (.t 0), none⟩,
 ⟨(some 19), .call false (.f 124) [(.t 18)], none⟩,
 ⟨(some 17), .move (.t 19), none⟩,
 ⟨(some 20), .ext (.t 17) 0, none⟩,
 ⟨(some 21), .ext (.t 17) 1, none⟩,
 ⟨(some 5), .move (.t 20), none⟩,
 ⟨(some 6), .move (.t 21), none⟩] [1, 5, 6])
 (.seq
 (.reg [⟨(some 23), .move (.t 1), none⟩,
 ⟨(some 24), .call false (.f 124) [(.t 23)], none⟩,
 ⟨(some 22), .move (.t 24), none⟩,
 ⟨(some 25), .ext (.t 22) 0, none⟩,
 ⟨(some 26), .ext (.t 22) 1, none⟩,
 ⟨(some 7), .move (.t 25), none⟩,
 ⟨(some 8), .move (.t 26), none⟩] [5, 6, 7, 8])
 (.seq
 (.seq
 (.reg [⟨(some 27), .move (.t 5), none⟩,
 ⟨(some 28), .move (.t 7), none⟩,
 ⟨(some 29), .eqB true (.t 27) (.t 28), none⟩] [5, 6, 8, 29])
 (.cond (.t 29)
 (.seq
 (.seq
 (.reg [⟨(some 30), .move (.t 5), none⟩] [30])
 (.cond (.t 30)
 (.seq
 (.reg [⟨(some 4), .move (.c (.i .i64 (-1))), none⟩] [4])
 (.ret))
 (.skip)))
 (.seq
 (.reg [⟨(some 4), .move (.c (.i .i64 1)), none⟩] [4])
 (.ret)))
 (.skip)))
 (.seq
 (.seq
 (.reg [⟨(some 31), .move (.t 5), none⟩] [6, 8, 31])
 (.cond (.t 31)
 (.seq
 (.reg [⟨(some 32), .move (.t 8), none⟩,
 ⟨(some 33), .move (.t 6), none⟩,
 ⟨(some 34), .call false (.f 126) [(.t 32), (.t 33)], none⟩,
 ⟨(some 4), .move (.t 34), none⟩] [4])
 (.ret))
 (.skip)))
 (.seq
 (.reg [⟨(some 35), .move (.t 6), none⟩,
 ⟨(some 36), .move (.t 8), none⟩,
 ⟨(some 37), .call false (.f 126) [(.t 35), (.t 36)], none⟩,
 ⟨(some 4), .move (.t 37), none⟩] [4])
 (.ret)))))))
def c80 : SF := ⟨38, [.t 4], b80, none⟩

/-- workpiece/workpieceref03.Gcd -/
def h81 : Hints := ⟨[(0, [0, 1]), (1, [0, 1, 19]), (2, [4, 5]), (3, [1, 7]), (4, [7, 9]), (5, [7, 9, 32]), (6, [9, 11]), (7, [7, 11]), (8, [7, 9]), (9, [4, 5])], []⟩
def l81_0 : C :=
  .seq
 (.seq
 (.reg [⟨(some 30), .move (.t 9), none⟩,
 ⟨(some 31), .len false (.t 30), none⟩,
 ⟨(some 32), .bin .gtr (.t 31) (.c (.i .i64 0)), none⟩] [7, 9, 32])
 (.cond (.t 32)
 (.skip)
 (.exit 0)))
 (.block 1 (.seq
 (.reg [⟨(some 34), .move (.t 7), none⟩,
 ⟨(some 35), .move (.t 9), none⟩,
 ⟨(some 36), .call false (.f 127) [(.t 34), (.t 35)], none⟩,
 ⟨(some 33), .move (.t 36), none⟩,
 ⟨(some 37), .ext (.t 33) 0, none⟩,
 ⟨(some 38), .ext (.t 33) 1, none⟩,
 ⟨(some 10), .move (.t 37), none⟩,
 ⟨(some 11), .move (.t 38), none⟩] [9, 11])
 (.seq
 (.reg [⟨(some 39), .move (.t 9), none⟩,
 ⟨(some 7), .move (.t 39), none⟩] [7, 11])
 (.reg [⟨(some 40), .move (.t 11), none⟩,
 ⟨(some 9), .move (.t 40), none⟩] [7, 9]))))
def b81 : C :=
  .seq
 (.reg [⟨(some 4), .move (.c (.s [])), none⟩,
 ⟨(some 5), .move (.c (.i .i64 0)), none⟩] [0, 1])
 (.seq
 (.seq
 (.reg [⟨(some 12), .move (.t 0), none⟩,
 ⟨(some 13), .call false (.f 79) [(.t 12)], none⟩,
 ⟨(some 14), .un .not (.t 13), none⟩,
 ⟨(some 15), .move (.t 14), none⟩,
 ⟨(some 16), .move (.t 1), some (15, false)⟩,
 ⟨(some 17), .call false (.f 79) [(.t 16)], some (15, false)⟩,
 ⟨(some 18), .un .not (.t 17), some (15, false)⟩,
 ⟨(some 19), .pick (.t 15) (.c (.b true)) (.t 18), none⟩] [0, 1, 19])
 (.cond (.t 19)
 (.seq
 (.reg [⟨(some 4), .move (.c (.s [])), none⟩,
 ⟨(some 5), .move (.c (.i .i64 30)), none⟩] [4, 5])
 (.ret))
 (.skip)))
 (.seq
 (.reg [⟨(some 21), .move (.t 0), none⟩,
 ⟨(some 22), .call false (.f 124) [(.t 21)], none⟩,
 ⟨(some 20), .move (.t 22), none⟩,
 ⟨(some 23), .ext (.t 20) 0, none⟩,
 ⟨(some 24), .ext (.t 20) 1, none⟩,
 ⟨(some 6), .move (.t 23), none⟩,
 ⟨(some 7), .move (.t 24), none⟩] [1, 7])
 (.seq
 (.reg [⟨(some 26), .move (.t 1), none⟩,
 ⟨(some 27), .call false (.f 124) [(.t 26)], none⟩,
 ⟨(some 25), .move (.t 27), none⟩,
 ⟨(some 28), .ext (.t 25) 0, none⟩,
 ⟨(some 29), .ext (.t 25) 1, none⟩,
 ⟨(some 8), .move (.t 28), none⟩,
 ⟨(some 9), .move (.t 29), none⟩] [7, 9])
 (.seq
 (.block 0 (.loop l81_0))
 (.seq
 (.reg [⟨(some 41), .move (.t 7), none⟩,
 ⟨(some 42), .call false (.f 128) [(.c (.b false)), (.t 41)], none⟩,
 ⟨(some 43), .ext (.t 42) 0, none⟩,
 ⟨(some 44), .ext (.t 42) 1, none⟩,
 ⟨(some 4), .move (.t 43), none⟩,
 ⟨(some 5), .move (.t 44), none⟩] [4, 5])
 (.ret))))))
def c81 : SF := ⟨45, [.t 4, .t 5], b81, none⟩

/-- workpiece/enclosure.compute[workpiece/api.Ratio] -/
def h92 : Hints := ⟨[(0, [0, 1, 4, 5]), (1, [0, 1, 4, 5]), (2, [0, 4, 5]), (3, [4, 5])], []⟩
def b92 : C :=
  .seq
 (.reg [⟨(some 4), .alloc 26 [(.s []), (.s [])], none⟩,
 ⟨(some 5), .alloc 31 [(.i .i64 0)], none⟩] [0, 1, 4, 5])
 (.skip)
def r92 : C :=
  .seq
 (.reg [⟨(some 7), .move (.t 1), none⟩,
 ⟨(some 8), .call false (.f 110) [(.t 7), (.f 141)], none⟩,
 ⟨(some 9), .un .not (.t 8), none⟩,
 ⟨(some 10), .call false (.f 67) [(.t 9)], none⟩] [0, 4, 5])
 (.seq
 (.reg [⟨(some 11), .move (.t 0), none⟩,
 ⟨(some 12), .call false (.t 11) [], none⟩,
 ⟨none, .store 2 (.t 4) (.t 12), none⟩,
 ⟨none, .store 1 (.t 5) (.c (.i .i64 0)), none⟩] [4, 5])
 (.ret))
def c92 : SF := ⟨13, [.cell 4 true 2, .cell 5 false 1], b92, some ⟨[⟨(some 6), .mkF 140 [] [(.t 4), (.t 5)], none⟩], (.t 6), [], r92⟩⟩

/-- workpiece/enclosure.Width$1 -/
def h93 : Hints := ⟨[(0, [0, 1]), (1, [1])], []⟩
def b93 : C :=
  .seq
 (.reg [⟨(some 1), .alloc 26 [(.s []), (.s [])], none⟩] [0, 1])
 (.seq
 (.reg [⟨(some 2), .fieldAddr 2 (.t 0), none⟩,
 ⟨(some 3), .load true 2 (.t 2), none⟩,
 ⟨(some 4), .fieldAddr 0 (.t 0), none⟩,
 ⟨(some 5), .load true 2 (.t 4), none⟩,
 ⟨(some 6), .call false (.f 18) [(.t 3), (.t 5)], none⟩,
 ⟨(some 7), .ext (.t 6) 0, none⟩,
 ⟨(some 8), .ext (.t 6) 1, none⟩,
 ⟨(some 9), .call false (.f 51) [(.t 7), (.t 8)], none⟩,
 ⟨none, .store 2 (.t 1) (.t 9), none⟩] [1])
 (.ret))
def c93 : SF := ⟨10, [.cell 1 true 2], b93, none⟩

/-- workpiece/enclosure.Mul$1 -/
def h95 : Hints := ⟨[(0, [0, 1, 2]), (1, [2])], []⟩
def b95 : C :=
  .seq
 (.reg [⟨(some 2), .alloc 29 [(.s []), (.s []), (.s []), (.s [])], none⟩] [0, 1, 2])
 (.seq
 (.reg [⟨(some 3), .load true 4 (.t 0), none⟩,
 ⟨(some 4), .load true 4 (.t 1), none⟩,
 ⟨(some 5), .call false (.f 96) [(.f 21), (.t 3), (.t 4)], none⟩,
 ⟨none, .store 4 (.t 2) (.t 5), none⟩] [2])
 (.ret))
def c95 : SF := ⟨6, [.cell 2 true 4], b95, none⟩

/-- (workpiece/enclosure.operation).ends -/
def h96 : Hints := ⟨[(0, [0, 4, 5, 6]), (1, [6])], []⟩
def b96 : C :=
  .seq
 (.reg [⟨(some 4), .box 29 (.t 1), none⟩,
 ⟨(some 5), .box 29 (.t 2), none⟩,
 ⟨(some 6), .alloc 29 [(.s []), (.s []), (.s []), (.s [])], none⟩] [0, 4, 5, 6])
 (.seq
 (.draw [⟨0, ⟨(some 7), .move (.t 0), none⟩, 0, []⟩,
 ⟨1, ⟨(some 8), .fieldAddr 0 (.t 4), none⟩, 0, []⟩,
 ⟨2, ⟨(some 9), .load true 2 (.t 8), none⟩, 0, []⟩,
 ⟨3, ⟨(some 10), .fieldAddr 0 (.t 5), none⟩, 0, []⟩,
 ⟨4, ⟨(some 11), .load true 2 (.t 10), none⟩, 0, []⟩,
 ⟨6, ⟨(some 13), .move (.t 0), none⟩, 0, []⟩,
 ⟨7, ⟨(some 14), .fieldAddr 0 (.t 4), none⟩, 0, []⟩,
 ⟨8, ⟨(some 15), .load true 2 (.t 14), none⟩, 0, []⟩,
 ⟨9, ⟨(some 16), .fieldAddr 2 (.t 5), none⟩, 0, []⟩,
 ⟨10, ⟨(some 17), .load true 2 (.t 16), none⟩, 0, []⟩,
 ⟨12, ⟨(some 19), .move (.t 0), none⟩, 0, []⟩,
 ⟨13, ⟨(some 20), .fieldAddr 2 (.t 4), none⟩, 0, []⟩,
 ⟨14, ⟨(some 21), .load true 2 (.t 20), none⟩, 0, []⟩,
 ⟨15, ⟨(some 22), .fieldAddr 0 (.t 5), none⟩, 0, []⟩,
 ⟨16, ⟨(some 23), .load true 2 (.t 22), none⟩, 0, []⟩,
 ⟨18, ⟨(some 25), .move (.t 0), none⟩, 0, []⟩,
 ⟨19, ⟨(some 26), .fieldAddr 2 (.t 4), none⟩, 0, []⟩,
 ⟨20, ⟨(some 27), .load true 2 (.t 26), none⟩, 0, []⟩,
 ⟨21, ⟨(some 28), .fieldAddr 2 (.t 5), none⟩, 0, []⟩,
 ⟨22, ⟨(some 29), .load true 2 (.t 28), none⟩, 0, []⟩,
 ⟨5, ⟨(some 12), .call false (.f 130) [(.t 7), (.t 9), (.t 11)], none⟩, 1, [22, 20, 16, 14, 10, 8]⟩,
 ⟨11, ⟨(some 18), .call false (.f 130) [(.t 13), (.t 15), (.t 17)], none⟩, 1, [22, 20, 16, 14]⟩,
 ⟨17, ⟨(some 24), .call false (.f 130) [(.t 19), (.t 21), (.t 23)], none⟩, 1, [22, 20]⟩,
 ⟨23, ⟨(some 30), .call false (.f 130) [(.t 25), (.t 27), (.t 29)], none⟩, 1, []⟩,
 ⟨24, ⟨(some 31), .bslice false 26 2 [(.s []), (.s [])] 4 [(0, (.t 12)), (1, (.t 18)), (2, (.t 24)), (3, (.t 30))], none⟩, 0, []⟩,
 ⟨25, ⟨(some 32), .call false (.f 74) [(.t 31)], none⟩, 1, []⟩,
 ⟨26, ⟨none, .store 4 (.t 6) (.t 32), none⟩, 1, []⟩] [6])
 (.ret))
def c96 : SF := ⟨33, [.cell 6 true 4], b96, none⟩

/-- workpiece/enclosure.Div$1 -/
def h97 : Hints := ⟨[(0, [0, 1, 2]), (1, [0, 1, 2]), (2, [2])], []⟩
def b97 : C :=
  .seq
 (.reg [⟨(some 2), .alloc 29 [(.s []), (.s []), (.s []), (.s [])], none⟩] [0, 1, 2])
 (.seq
 (.draw [⟨0, ⟨(some 3), .load true 4 (.t 0), none⟩, 0, []⟩,
 ⟨1, ⟨(some 4), .call false (.f 68) [], none⟩, 1, [0]⟩,
 ⟨2, ⟨(some 5), .call false (.f 23) [(.t 3), (.t 4)], none⟩, 1, []⟩,
 ⟨3, ⟨(some 6), .un .not (.t 5), none⟩, 0, []⟩,
 ⟨4, ⟨(some 7), .call false (.f 67) [(.t 6)], none⟩, 1, []⟩] [0, 1, 2])
 (.seq
 (.reg [⟨(some 8), .load true 4 (.t 1), none⟩,
 ⟨(some 9), .load true 4 (.t 0), none⟩,
 ⟨(some 10), .call false (.f 96) [(.f 17), (.t 8), (.t 9)], none⟩,
 ⟨none, .store 4 (.t 2) (.t 10), none⟩] [2])
 (.ret)))
def c97 : SF := ⟨11, [.cell 2 true 4], b97, none⟩

/-- workpiece/workpieceref03.Div -/
def h98 : Hints := ⟨[(0, [0, 1]), (1, [0, 1, 28]), (2, [4, 5, 6]), (3, [1, 7, 8]), (4, [7, 8, 9, 10]), (5, [7, 9, 10, 11, 12]), (6, [7, 9, 10, 11, 12, 50]), (7, [7, 9, 10, 11, 12]), (8, [7, 9, 11, 12]), (9, [12, 13, 14]), (10, [13, 14, 15]), (11, [13, 14, 15, 71]), (12, [4, 5, 6]), (13, [4, 5, 6])], []⟩
def b98 : C :=
  .seq
 (.reg [⟨(some 4), .move (.c (.s [])), none⟩,
 ⟨(some 5), .move (.c (.s [])), none⟩,
 ⟨(some 6), .move (.c (.i .i64 0)), none⟩] [0, 1])
 (.seq
 (.seq
 (.reg [⟨(some 17), .move (.t 0), none⟩,
 ⟨(some 18), .call false (.f 79) [(.t 17)], none⟩,
 ⟨(some 19), .un .not (.t 18), none⟩,
 ⟨(some 20), .move (.t 19), none⟩,
 ⟨(some 21), .move (.t 1), some (20, false)⟩,
 ⟨(some 22), .call false (.f 79) [(.t 21)], some (20, false)⟩,
 ⟨(some 23), .un .not (.t 22), some (20, false)⟩,
 ⟨(some 24), .pick (.t 20) (.c (.b true)) (.t 23), none⟩,
 ⟨(some 25), .move (.t 24), none⟩,
 ⟨(some 26), .move (.t 1), some (25, false)⟩,
 ⟨(some 27), .bin .eql (.t 26) (.c (.s [48])), some (25, false)⟩,
 ⟨(some 28), .pick (.t 25) (.c (.b true)) (.t 27), none⟩] [0, 1, 28])
 (.cond (.t 28)
 (.seq
 (.reg [⟨(some 4), .move (.c (.s [])), none⟩,
 ⟨(some 5), .move (.c (.s [])), none⟩,
 ⟨(some 6), .move (.c (.i .i64 30)), none⟩] [4, 5, 6])
 (.ret))
 (.skip)))
 (.seq
 (.reg [⟨(some 30), .move (.t 0), none⟩,
 ⟨(some 31), .call false (.f 124) [(.t 30)], none⟩,
 ⟨(some 29), .move (.t 31), none⟩,
 ⟨(some 32), .ext (.t 29) 0, none⟩,
 ⟨(some 33), .ext (.t 29) 1, none⟩,
 ⟨(some 7), .move (.t 32), none⟩,
 ⟨(some 8), .move (.t 33), none⟩] [1, 7, 8])
 (.seq
 (.reg [⟨(some 35), .move (.t 1), none⟩,
 ⟨(some 36), .call false (.f 124) [(.t 35)], none⟩,
 ⟨(some 34), .move (.t 36), none⟩,
 ⟨(some 37), .ext (.t 34) 0, none⟩,
 ⟨(some 38), .ext (.t 34) 1, none⟩,
 ⟨(some 9), .move (.t 37), none⟩,
 ⟨(some 10), .move (.t 38), none⟩] [7, 8, 9, 10])
 (.seq
 (.reg [⟨(some 40), .move (.t 8), none⟩,
 ⟨(some 41), .move (.t 10), none⟩,
 ⟨(some 42), .call false (.f 127) [(.t 40), (.t 41)], none⟩,
 ⟨(some 39), .move (.t 42), none⟩,
 ⟨(some 43), .ext (.t 39) 0, none⟩,
 ⟨(some 44), .ext (.t 39) 1, none⟩,
 ⟨(some 11), .move (.t 43), none⟩,
 ⟨(some 12), .move (.t 44), none⟩] [7, 9, 10, 11, 12])
 (.seq
 (.seq
 (.reg [⟨(some 45), .move (.t 7), none⟩,
 ⟨(some 46), .move (.t 45), none⟩,
 ⟨(some 47), .move (.t 12), some (46, true)⟩,
 ⟨(some 48), .len false (.t 47), some (46, true)⟩,
 ⟨(some 49), .bin .gtr (.t 48) (.c (.i .i64 0)), some (46, true)⟩,
 ⟨(some 50), .pick (.t 46) (.t 49) (.c (.b false)), none⟩] [7, 9, 10, 11, 12, 50])
 (.cond (.t 50)
 (.seq
 (.reg [⟨(some 51), .move (.t 11), none⟩,
 ⟨(some 52), .bslice false 3 1 [(.i .i64 0)] 1 [(0, (.c (.i .i64 1)))], none⟩,
 ⟨(some 53), .call false (.f 143) [(.t 51), (.t 52)], none⟩,
 ⟨(some 11), .move (.t 53), none⟩] [7, 9, 10, 11, 12])
 (.reg [⟨(some 54), .move (.t 10), none⟩,
 ⟨(some 55), .move (.t 12), none⟩,
 ⟨(some 56), .call false (.f 144) [(.t 54), (.t 55)], none⟩,
 ⟨(some 12), .move (.t 56), none⟩] [7, 9, 11, 12]))
 (.skip)))
 (.seq
 (.reg [⟨(some 58), .move (.t 7), none⟩,
 ⟨(some 59), .move (.t 9), none⟩,
 ⟨(some 60), .eqB true (.t 58) (.t 59), none⟩,
 ⟨(some 61), .move (.t 11), none⟩,
 ⟨(some 62), .call false (.f 128) [(.t 60), (.t 61)], none⟩,
 ⟨(some 57), .move (.t 62), none⟩,
 ⟨(some 63), .ext (.t 57) 0, none⟩,
 ⟨(some 64), .ext (.t 57) 1, none⟩,
 ⟨(some 13), .move (.t 63), none⟩,
 ⟨(some 14), .move (.t 64), none⟩] [12, 13, 14])
 (.seq
 (.reg [⟨(some 66), .move (.t 12), none⟩,
 ⟨(some 67), .call false (.f 145) [(.c (.b false)), (.t 66)], none⟩,
 ⟨(some 65), .move (.t 67), none⟩,
 ⟨(some 68), .ext (.t 65) 0, none⟩,
 ⟨(some 69), .ext (.t 65) 1, none⟩,
 ⟨(some 15), .move (.t 68), none⟩,
 ⟨(some 16), .move (.t 69), none⟩] [13, 14, 15])
 (.seq
 (.seq
 (.reg [⟨(some 70), .move (.t 14), none⟩,
 ⟨(some 71), .bin .neq (.t 70) (.c (.i .i64 0)), none⟩] [13, 14, 15, 71])
 (.cond (.t 71)
 (.seq
 (.reg [⟨(some 72), .move (.t 14), none⟩,
 ⟨(some 4), .move (.c (.s [])), none⟩,
 ⟨(some 5), .move (.c (.s [])), none⟩,
 ⟨(some 6), .move (.t 72), none⟩] [4, 5, 6])
 (.ret))
 (.skip)))
 (.seq
 (.reg [⟨(some 73), .move (.t 13), none⟩,
 ⟨(some 74), .move (.t 15), none⟩,
 ⟨(some 4), .move (.t 73), none⟩,
 ⟨(some 5), .move (.t 74), none⟩,
 ⟨(some 6), .move (.c (.i .i64 0)), none⟩] [4, 5, 6])
 (.ret))))))))))
def c98 : SF := ⟨75, [.t 4, .t 5, .t 6], b98, none⟩

/-- workpiece/integer.Valid -/
def h99 : Hints := ⟨[(0, [0]), (1, [2])], []⟩
def b99 : C :=
  .seq
 (.reg [⟨(some 2), .move (.c (.b false)), none⟩] [0])
 (.seq
 (.reg [⟨(some 3), .move (.t 0), none⟩,
 ⟨(some 4), .call false (.f 146) [(.t 3)], none⟩,
 ⟨(some 2), .move (.t 4), none⟩] [2])
 (.ret))
def c99 : SF := ⟨5, [.t 2], b99, none⟩

/-- workpiece/integer.Gcd -/
def h100 : Hints := ⟨[(0, [0, 1]), (1, [6, 7, 8]), (2, [6, 7, 21]), (3, [4, 5]), (4, [9, 10]), (5, [9, 10, 28]), (6, [10, 12]), (7, [9, 10]), (8, [4, 5])], []⟩
def l100_0 : C :=
  .seq
 (.seq
 (.reg [⟨(some 26), .move (.t 10), none⟩,
 ⟨(some 27), .len false (.t 26), none⟩,
 ⟨(some 28), .bin .gtr (.t 27) (.c (.i .i64 0)), none⟩] [9, 10, 28])
 (.cond (.t 28)
 (.skip)
 (.exit 0)))
 (.block 1 (.seq
 (.reg [⟨(some 30), .move (.t 9), none⟩,
 ⟨(some 31), .move (.t 10), none⟩,
 ⟨(some 32), .call false (.f 102) [(.t 30), (.t 31)], none⟩,
 ⟨(some 29), .move (.t 32), none⟩,
 ⟨(some 33), .ext (.t 29) 0, none⟩,
 ⟨(some 34), .ext (.t 29) 1, none⟩,
 ⟨(some 11), .move (.t 33), none⟩,
 ⟨(some 12), .move (.t 34), none⟩] [10, 12])
 (.reg [⟨(some 35), .move (.t 10), none⟩,
 ⟨(some 36), .move (.t 12), none⟩,
 ⟨(some 9), .move (.t 35), none⟩,
 ⟨(some 10), .move (.t 36), none⟩] [9, 10])))
def b100 : C :=
  .seq
 (.reg [⟨(some 4), .move (.c (.s [])), none⟩,
 ⟨(some 5), .move (.c (.i .i64 0)), none⟩] [0, 1])
 (.seq
 (.reg [⟨(some 14), .move (.t 0), none⟩,
 ⟨(some 15), .move (.t 1), none⟩,
 ⟨(some 16), .call false (.f 101) [(.t 14), (.t 15)], none⟩,
 ⟨(some 13), .move (.t 16), none⟩,
 ⟨(some 17), .ext (.t 13) 0, none⟩,
 ⟨(some 18), .ext (.t 13) 1, none⟩,
 ⟨(some 19), .ext (.t 13) 2, none⟩,
 ⟨(some 6), .alloc 103 [(.b false), (.ls [])], none⟩,
 ⟨(some 7), .alloc 103 [(.b false), (.ls [])], none⟩,
 ⟨none, .store 2 (.t 6) (.t 17), none⟩,
 ⟨none, .store 2 (.t 7) (.t 18), none⟩,
 ⟨(some 8), .move (.t 19), none⟩] [6, 7, 8])
 (.seq
 (.seq
 (.reg [⟨(some 20), .move (.t 8), none⟩,
 ⟨(some 21), .un .not (.t 20), none⟩] [6, 7, 21])
 (.cond (.t 21)
 (.seq
 (.reg [⟨(some 4), .move (.c (.s [])), none⟩,
 ⟨(some 5), .move (.c (.i .i64 30)), none⟩] [4, 5])
 (.ret))
 (.skip)))
 (.seq
 (.draw [⟨0, ⟨(some 22), .fieldAddr 1 (.t 6), none⟩, 0, []⟩,
 ⟨1, ⟨(some 23), .load false 1 (.t 22), none⟩, 0, []⟩,
 ⟨2, ⟨(some 24), .fieldAddr 1 (.t 7), none⟩, 0, []⟩,
 ⟨3, ⟨(some 25), .load false 1 (.t 24), none⟩, 0, []⟩,
 ⟨4, ⟨(some 9), .move (.t 23), none⟩, 0, []⟩,
 ⟨5, ⟨(some 10), .move (.t 25), none⟩, 0, []⟩] [9, 10])
 (.seq
 (.block 0 (.loop l100_0))
 (.seq
 (.reg [⟨(some 37), .move (.t 9), none⟩,
 ⟨(some 38), .build [(.b false), (.ls [])] [(1, 1, (.t 37))], none⟩,
 ⟨(some 39), .call false (.f 106) [(.t 38)], none⟩,
 ⟨(some 40), .ext (.t 39) 0, none⟩,
 ⟨(some 41), .ext (.t 39) 1, none⟩,
 ⟨(some 4), .move (.t 40), none⟩,
 ⟨(some 5), .move (.t 41), none⟩] [4, 5])
 (.ret))))))
def c100 : SF := ⟨42, [.t 4, .t 5], b100, none⟩

/-- workpiece/integer.both -/
def h101 : Hints := ⟨[(0, [0, 1, 4, 5]), (1, [0, 1, 4, 5, 14]), (2, [4, 5, 6]), (3, [4, 5, 6])], []⟩
def b101 : C :=
  .seq
 (.reg [⟨(some 4), .alloc 103 [(.b false), (.ls [])], none⟩,
 ⟨(some 5), .alloc 103 [(.b false), (.ls [])], none⟩,
 ⟨(some 6), .move (.c (.b false)), none⟩] [0, 1, 4, 5])
 (.seq
 (.seq
 (.reg [⟨(some 7), .move (.t 0), none⟩,
 ⟨(some 8), .call false (.f 146) [(.t 7)], none⟩,
 ⟨(some 9), .un .not (.t 8), none⟩,
 ⟨(some 10), .move (.t 9), none⟩,
 ⟨(some 11), .move (.t 1), some (10, false)⟩,
 ⟨(some 12), .call false (.f 146) [(.t 11)], some (10, false)⟩,
 ⟨(some 13), .un .not (.t 12), some (10, false)⟩,
 ⟨(some 14), .pick (.t 10) (.c (.b true)) (.t 13), none⟩] [0, 1, 4, 5, 14])
 (.cond (.t 14)
 (.seq
 (.reg [⟨(some 15), .build [(.b false), (.ls [])] [], none⟩,
 ⟨(some 16), .build [(.b false), (.ls [])] [], none⟩,
 ⟨none, .store 2 (.t 4) (.t 15), none⟩,
 ⟨none, .store 2 (.t 5) (.t 16), none⟩,
 ⟨(some 6), .move (.c (.b false)), none⟩] [4, 5, 6])
 (.ret))
 (.skip)))
 (.seq
 (.reg [⟨(some 17), .move (.t 0), none⟩,
 ⟨(some 18), .call false (.f 147) [(.t 17)], none⟩,
 ⟨(some 19), .move (.t 1), none⟩,
 ⟨(some 20), .call false (.f 147) [(.t 19)], none⟩,
 ⟨none, .store 2 (.t 4) (.t 18), none⟩,
 ⟨none, .store 2 (.t 5) (.t 20), none⟩,
 ⟨(some 6), .move (.c (.b true)), none⟩] [4, 5, 6])
 (.ret)))
def c101 : SF := ⟨21, [.cell 4 true 2, .cell 5 true 2, .t 6], b101, none⟩

/-- (workpiece/integer.number).over -/
def h102 : Hints := ⟨[(0, [0, 3, 4, 5]), (1, [0, 3, 4, 5]), (2, [3, 4, 5, 14]), (3, [3, 4, 5, 6, 16]), (4, [3, 4, 5, 6, 7]), (5, [3, 4, 5, 6]), (6, [4, 5, 6, 8]), (7, [4, 5, 6, 8, 9]), (8, [4, 5, 6, 8]), (9, []), (10, [4, 5])], [(5, 3), (10, 0), (5, 1)]⟩
def l102_0 : C :=
  .seq
 (.reg [⟨(some 6), .move (.t 15), none⟩] [3, 4, 5, 6, 16])
 (.reg [⟨(some 7), .move (.t 16), none⟩] [3, 4, 5, 6, 7])
def l102_1 : C :=
  .block 1 (.seq
 (.reg [⟨(some 17), .move (.t 7), none⟩,
 ⟨(some 18), .bslice true 3 1 [(.i .i64 0)] 1 [(0, (.t 17))], none⟩,
 ⟨(some 19), .load false 1 (.t 5), none⟩,
 ⟨(some 20), .appF 3 1 8 (.t 18) (.t 19), none⟩,
 ⟨(some 21), .call false (.f 149) [(.t 20)], none⟩,
 ⟨none, .store 1 (.t 5) (.t 21), none⟩] [3, 4, 5, 6])
 (.seq
 (.reg [⟨(some 22), .load false 1 (.t 3), none⟩,
 ⟨(some 23), .mkF 150 [(.t 22)] [], none⟩,
 ⟨(some 8), .alloc 140 [.nilf], none⟩,
 ⟨none, .store 1 (.t 8) (.t 23), none⟩] [4, 5, 6, 8])
 (.seq
 (.reg [⟨(some 24), .mkF 151 [] [(.t 8), (.t 5)], none⟩,
 ⟨(some 9), .move (.t 24), none⟩] [4, 5, 6, 8, 9])
 (.seq
 (.draw [⟨0, ⟨(some 25), .load false 1 (.t 4), none⟩, 0, []⟩,
 ⟨1, ⟨(some 26), .move (.t 6), none⟩, 0, []⟩,
 ⟨2, ⟨(some 27), .move (.t 9), none⟩, 0, []⟩,
 ⟨3, ⟨(some 28), .call false (.f 152) [(.c (.i .i64 9999)), (.t 27)], none⟩, 1, [0]⟩,
 ⟨4, ⟨(some 29), .ixS 1 (.t 25) (.t 26), none⟩, 0, []⟩,
 ⟨5, ⟨none, .store 1 (.t 29) (.t 28), none⟩, 1, []⟩] [4, 5, 6, 8])
 (.draw [⟨0, ⟨(some 30), .load false 1 (.t 5), none⟩, 0, []⟩,
 ⟨1, ⟨(some 31), .load false 1 (.t 8), none⟩, 0, []⟩,
 ⟨2, ⟨(some 32), .load false 1 (.t 4), none⟩, 0, []⟩,
 ⟨3, ⟨(some 33), .move (.t 6), none⟩, 0, []⟩,
 ⟨4, ⟨(some 34), .ixS 1 (.t 32) (.t 33), none⟩, 0, []⟩,
 ⟨5, ⟨(some 35), .load false 1 (.t 34), none⟩, 0, []⟩,
 ⟨6, ⟨(some 36), .call false (.t 31) [(.t 35)], none⟩, 1, [0]⟩,
 ⟨7, ⟨(some 37), .call false (.f 105) [(.t 30), (.t 36)], none⟩, 1, []⟩,
 ⟨8, ⟨none, .store 1 (.t 5) (.t 37), none⟩, 1, []⟩] [])))))
def b102 : C :=
  .seq
 (.reg [⟨(some 3), .box 101 (.t 1), none⟩,
 ⟨(some 4), .alloc 101 [(.ls [])], none⟩,
 ⟨(some 5), .alloc 101 [(.ls [])], none⟩] [0, 3, 4, 5])
 (.seq
 (.reg [⟨(some 10), .move (.t 0), none⟩,
 ⟨(some 11), .len false (.t 10), none⟩,
 ⟨(some 12), .mkSl 3 1 8 [(.i .i64 0)] (.t 11) (.t 11), none⟩,
 ⟨none, .store 1 (.t 4) (.t 12), none⟩] [0, 3, 4, 5])
 (.seq
 (.seq
 (.reg [⟨(some 13), .move (.t 0), none⟩,
 ⟨(some 14), .call false (.f 148) [(.t 13)], none⟩] [3, 4, 5, 14])
 (.block 0 (.range (.t 14) [15, 16] l102_0 l102_1)))
 (.seq
 (.draw [⟨2, ⟨(some 40), .load false 1 (.t 5), none⟩, 0, []⟩,
 ⟨0, ⟨(some 38), .frzL false 1 (.t 4), none⟩, 1, [2]⟩,
 ⟨1, ⟨(some 39), .call false (.f 149) [(.t 38)], none⟩, 1, [2]⟩,
 ⟨3, ⟨none, .store 1 (.t 4) (.t 39), none⟩, 1, [2]⟩,
 ⟨4, ⟨none, .store 1 (.t 5) (.t 40), none⟩, 1, []⟩] [4, 5])
 (.ret))))
def c102 : SF := ⟨41, [.cell 4 false 1, .cell 5 false 1], b102, none⟩

/-- (workpiece/integer.number).plus -/
def h103 : Hints := ⟨[(0, [2, 3]), (1, [4])], []⟩
def b103 : C :=
  .seq
 (.reg [⟨(some 2), .box 101 (.t 0), none⟩,
 ⟨(some 3), .box 101 (.t 1), none⟩,
 ⟨(some 4), .move (.c (.ls [])), none⟩] [2, 3])
 (.seq
 (.reg [⟨(some 5), .load false 1 (.t 2), none⟩,
 ⟨(some 6), .len false (.t 5), none⟩,
 ⟨(some 7), .load false 1 (.t 3), none⟩,
 ⟨(some 8), .len false (.t 7), none⟩,
 ⟨(some 9), .mm true [(.t 6), (.t 8)], none⟩,
 ⟨(some 10), .mkF 154 [] [(.t 2), (.t 3)], none⟩,
 ⟨(some 11), .call false (.f 153) [(.t 9), (.c (.i .i64 0)), (.t 10)], none⟩,
 ⟨(some 12), .call false (.f 149) [(.t 11)], none⟩,
 ⟨(some 4), .move (.t 12), none⟩] [4])
 (.ret))
def c103 : SF := ⟨13, [.t 4], b103, none⟩

/-- workpiece/integer.one -/
def h104 : Hints := ⟨[(0, []), (1, [0])], []⟩
def b104 : C :=
  .seq
 (.reg [⟨(some 0), .move (.c (.ls [])), none⟩] [])
 (.seq
 (.reg [⟨(some 1), .bslice false 3 1 [(.i .i64 0)] 1 [(0, (.c (.i .i64 1)))], none⟩,
 ⟨(some 0), .move (.t 1), none⟩] [0])
 (.ret))
def c104 : SF := ⟨2, [.t 0], b104, none⟩

/-- (workpiece/integer.number).minus -/
def h105 : Hints := ⟨[(0, [2, 3]), (1, [4])], []⟩
def b105 : C :=
  .seq
 (.reg [⟨(some 2), .box 101 (.t 0), none⟩,
 ⟨(some 3), .box 101 (.t 1), none⟩,
 ⟨(some 4), .move (.c (.ls [])), none⟩] [2, 3])
 (.seq
 (.reg [⟨(some 5), .load false 1 (.t 2), none⟩,
 ⟨(some 6), .len false (.t 5), none⟩,
 ⟨(some 7), .mkF 156 [] [(.t 2), (.t 3)], none⟩,
 ⟨(some 8), .call false (.f 153) [(.t 6), (.c (.i .i64 0)), (.t 7)], none⟩,
 ⟨(some 9), .call false (.f 149) [(.t 8)], none⟩,
 ⟨(some 4), .move (.t 9), none⟩] [4])
 (.ret))
def c105 : SF := ⟨10, [.t 4], b105, none⟩

/-- (workpiece/integer.signed).text -/
def h106 : Hints := ⟨[(0, [1]), (1, [1, 12]), (2, [2, 3]), (3, [1, 4]), (4, [1, 4, 15]), (5, [1, 4, 5, 17]), (6, [1, 4, 5, 6]), (7, [1, 4, 5, 7]), (8, [4, 7, 25]), (9, [4, 7]), (10, []), (11, [1, 8]), (12, [1, 8, 37]), (13, [2, 3]), (14, [8, 39]), (15, [2, 3]), (16, [2, 3])], [(3, 0)]⟩
def l106_0 : C :=
  .seq
 (.reg [⟨(some 5), .move (.t 16), none⟩] [1, 4, 5, 17])
 (.reg [⟨(some 6), .move (.t 17), none⟩] [1, 4, 5, 6])
def l106_1 : C :=
  .block 1 (.seq
 (.reg [⟨(some 18), .move (.t 6), none⟩,
 ⟨(some 19), .call false (.f 157) [(.t 18)], none⟩,
 ⟨(some 7), .move (.t 19), none⟩] [1, 4, 5, 7])
 (.seq
 (.seq
 (.reg [⟨(some 20), .move (.t 5), none⟩,
 ⟨(some 21), .fieldAddr 1 (.t 1), none⟩,
 ⟨(some 22), .load false 1 (.t 21), none⟩,
 ⟨(some 23), .len false (.t 22), none⟩,
 ⟨(some 24), .bin .sub (.t 23) (.c (.i .i64 1)), none⟩,
 ⟨(some 25), .bin .lss (.t 20) (.t 24), none⟩] [4, 7, 25])
 (.cond (.t 25)
 (.reg [⟨(some 26), .move (.t 7), none⟩,
 ⟨(some 27), .len true (.t 26), none⟩,
 ⟨(some 28), .bin .sub (.c (.i .i64 4)) (.t 27), none⟩,
 ⟨(some 29), .call false (.f 120) [(.c (.s [48])), (.t 28)], none⟩,
 ⟨(some 30), .move (.t 7), none⟩,
 ⟨(some 31), .bin .add (.t 29) (.t 30), none⟩,
 ⟨(some 7), .move (.t 31), none⟩] [4, 7])
 (.skip)))
 (.reg [⟨(some 32), .move (.t 7), none⟩,
 ⟨(some 33), .call false (.f 158) [(.t 4), (.t 32)], none⟩] [])))
def b106 : C :=
  .seq
 (.reg [⟨(some 1), .box 103 (.t 0), none⟩,
 ⟨(some 2), .move (.c (.s [])), none⟩,
 ⟨(some 3), .move (.c (.i .i64 0)), none⟩] [1])
 (.seq
 (.seq
 (.reg [⟨(some 9), .fieldAddr 1 (.t 1), none⟩,
 ⟨(some 10), .load false 1 (.t 9), none⟩,
 ⟨(some 11), .len false (.t 10), none⟩,
 ⟨(some 12), .bin .eql (.t 11) (.c (.i .i64 0)), none⟩] [1, 12])
 (.cond (.t 12)
 (.seq
 (.reg [⟨(some 2), .move (.c (.s [48])), none⟩,
 ⟨(some 3), .move (.c (.i .i64 0)), none⟩] [2, 3])
 (.ret))
 (.skip)))
 (.seq
 (.reg [⟨(some 4), .allocG 147 5 1 1 [.nilp, (.ls [])], none⟩] [1, 4])
 (.seq
 (.seq
 (.reg [⟨(some 13), .fieldAddr 1 (.t 1), none⟩,
 ⟨(some 14), .load false 1 (.t 13), none⟩,
 ⟨(some 15), .call false (.f 148) [(.t 14)], none⟩] [1, 4, 15])
 (.block 0 (.range (.t 15) [16, 17] l106_0 l106_1)))
 (.seq
 (.reg [⟨(some 34), .call false (.f 159) [(.t 4)], none⟩,
 ⟨(some 8), .move (.t 34), none⟩] [1, 8])
 (.seq
 (.seq
 (.reg [⟨(some 35), .move (.t 8), none⟩,
 ⟨(some 36), .len true (.t 35), none⟩,
 ⟨(some 37), .bin .gtr (.t 36) (.c (.i .i64 200)), none⟩] [1, 8, 37])
 (.cond (.t 37)
 (.seq
 (.reg [⟨(some 2), .move (.c (.s [])), none⟩,
 ⟨(some 3), .move (.c (.i .i64 30)), none⟩] [2, 3])
 (.ret))
 (.skip)))
 (.seq
 (.seq
 (.reg [⟨(some 38), .fieldAddr 0 (.t 1), none⟩,
 ⟨(some 39), .load false 1 (.t 38), none⟩] [8, 39])
 (.cond (.t 39)
 (.seq
 (.reg [⟨(some 40), .move (.t 8), none⟩,
 ⟨(some 41), .bin .add (.c (.s [45])) (.t 40), none⟩,
 ⟨(some 2), .move (.t 41), none⟩,
 ⟨(some 3), .move (.c (.i .i64 0)), none⟩] [2, 3])
 (.ret))
 (.skip)))
 (.seq
 (.reg [⟨(some 42), .move (.t 8), none⟩,
 ⟨(some 2), .move (.t 42), none⟩,
 ⟨(some 3), .move (.c (.i .i64 0)), none⟩] [2, 3])
 (.ret))))))))
def c106 : SF := ⟨43, [.t 2, .t 3], b106, none⟩

/-- (workpiece/integer.number).compare -/
def h107 : Hints := ⟨[(0, [0, 3, 4]), (1, [0, 3, 4, 11]), (2, [4]), (3, [3, 4, 18]), (4, [3, 4, 5, 20]), (5, [3, 4, 5, 6]), (6, [3, 4, 5, 6, 26]), (7, [4]), (8, [4])], []⟩
def l107_0 : C :=
  .seq
 (.reg [⟨(some 5), .move (.t 19), none⟩] [3, 4, 5, 20])
 (.reg [⟨(some 6), .move (.t 20), none⟩] [3, 4, 5, 6])
def l107_1 : C :=
  .block 1 (.seq
 (.reg [⟨(some 21), .move (.t 6), none⟩,
 ⟨(some 22), .load false 1 (.t 3), none⟩,
 ⟨(some 23), .move (.t 5), none⟩,
 ⟨(some 24), .ixS 1 (.t 22) (.t 23), none⟩,
 ⟨(some 25), .load false 1 (.t 24), none⟩,
 ⟨(some 26), .bin .neq (.t 21) (.t 25), none⟩] [3, 4, 5, 6, 26])
 (.cond (.t 26)
 (.seq
 (.reg [⟨(some 27), .move (.t 6), none⟩,
 ⟨(some 28), .load false 1 (.t 3), none⟩,
 ⟨(some 29), .move (.t 5), none⟩,
 ⟨(some 30), .ixS 1 (.t 28) (.t 29), none⟩,
 ⟨(some 31), .load false 1 (.t 30), none⟩,
 ⟨(some 32), .call false (.f 160) [(.t 27), (.t 31)], none⟩,
 ⟨none, .store 1 (.t 4) (.t 32), none⟩] [4])
 (.ret))
 (.skip)))
def b107 : C :=
  .seq
 (.reg [⟨(some 3), .box 101 (.t 1), none⟩,
 ⟨(some 4), .alloc 3 [(.i .i64 0)], none⟩] [0, 3, 4])
 (.seq
 (.seq
 (.reg [⟨(some 7), .move (.t 0), none⟩,
 ⟨(some 8), .len false (.t 7), none⟩,
 ⟨(some 9), .load false 1 (.t 3), none⟩,
 ⟨(some 10), .len false (.t 9), none⟩,
 ⟨(some 11), .bin .neq (.t 8) (.t 10), none⟩] [0, 3, 4, 11])
 (.cond (.t 11)
 (.seq
 (.reg [⟨(some 12), .move (.t 0), none⟩,
 ⟨(some 13), .len false (.t 12), none⟩,
 ⟨(some 14), .load false 1 (.t 3), none⟩,
 ⟨(some 15), .len false (.t 14), none⟩,
 ⟨(some 16), .call false (.f 160) [(.t 13), (.t 15)], none⟩,
 ⟨none, .store 1 (.t 4) (.t 16), none⟩] [4])
 (.ret))
 (.skip)))
 (.seq
 (.seq
 (.reg [⟨(some 17), .move (.t 0), none⟩,
 ⟨(some 18), .call false (.f 148) [(.t 17)], none⟩] [3, 4, 18])
 (.block 0 (.range (.t 18) [19, 20] l107_0 l107_1)))
 (.seq
 (.reg [⟨none, .store 1 (.t 4) (.c (.i .i64 0)), none⟩] [4])
 (.ret))))
def c107 : SF := ⟨33, [.cell 4 false 1], b107, none⟩

/-- workpiece/enclosure.compute[workpiece/api.Interval]$1 -/
def h108 : Hints := ⟨[(0, [0, 1, 2, 3]), (1, [0, 1, 15]), (2, [0, 1, 4]), (3, [])], []⟩
def d108 : DF := ⟨17, 6, [⟨(some 7), .asI [8, 10, 11, 14, 15, 16, 19, 168, 199, 202, 227] (.t 6), none⟩,
  ⟨(some 5), .move (.t 7), none⟩,
  ⟨(some 8), .ext (.t 5) 0, none⟩,
  ⟨(some 9), .ext (.t 5) 1, none⟩,
  ⟨(some 2), .move (.t 8), none⟩,
  ⟨(some 3), .move (.t 9), none⟩], [0, 1, 2, 3],
  .seq
 (.reg [⟨(some 10), .move (.t 3), none⟩,
 ⟨(some 11), .move (.t 10), none⟩,
 ⟨(some 12), .move (.t 2), some (11, true)⟩,
 ⟨(some 13), .load false 1 (.g 0), some (11, true)⟩,
 ⟨(some 14), .call false (.f 109) [(.t 12), (.t 13)], some (11, true)⟩,
 ⟨(some 15), .pick (.t 11) (.t 14) (.c (.b false)), none⟩] [0, 1, 15])
 (.cond (.t 15)
 (.seq
 (.reg [⟨(some 4), .alloc 29 [(.s []), (.s []), (.s []), (.s [])], none⟩] [0, 1, 4])
 (.reg [⟨(some 16), .load true 4 (.t 4), none⟩,
 ⟨none, .store 4 (.t 0) (.t 16), none⟩,
 ⟨none, .store 1 (.t 1) (.c (.i .i64 50)), none⟩] []))
 (.skip))⟩

/-- slices.ContainsFunc[[]workpiece/api.Interval,workpiece/api.Interval] -/
def h110 : Hints := ⟨[(0, [0, 1]), (1, [4])], []⟩
def b110 : C :=
  .seq
 (.reg [⟨(some 4), .move (.c (.b false)), none⟩] [0, 1])
 (.seq
 (.reg [⟨(some 5), .move (.t 0), none⟩,
 ⟨(some 6), .move (.t 1), none⟩,
 ⟨(some 7), .call false (.f 163) [(.t 5), (.t 6)], none⟩,
 ⟨(some 8), .bin .geq (.t 7) (.c (.i .i64 0)), none⟩,
 ⟨(some 4), .move (.t 8), none⟩] [4])
 (.ret))
def c110 : SF := ⟨9, [.t 4], b110, none⟩

/-- workpiece/enclosure.compute[workpiece/api.Interval]$2 -/
def h111 : Hints := ⟨[(0, [1]), (1, [2])], []⟩
def b111 : C :=
  .seq
 (.reg [⟨(some 1), .box 29 (.t 0), none⟩,
 ⟨(some 2), .move (.c (.b false)), none⟩] [1])
 (.seq
 (.reg [⟨(some 3), .load true 4 (.t 1), none⟩,
 ⟨(some 4), .call false (.f 35) [(.t 3)], none⟩,
 ⟨(some 5), .un .not (.t 4), none⟩,
 ⟨(some 2), .move (.t 5), none⟩] [2])
 (.ret))
def c111 : SF := ⟨6, [.t 2], b111, none⟩

/-- workpiece/rational.round -/
def h112 : Hints := ⟨[(0, [1, 2, 3, 6]), (1, [1, 2, 3, 6, 8]), (2, [1, 2, 3, 6, 8]), (3, [1, 2, 3, 6, 8, 29]), (4, [6, 7]), (5, [2, 3, 6, 8, 9]), (6, [2, 3, 6, 8, 9, 10]), (7, [2, 3, 6, 8, 9, 10, 42]), (8, [6, 7]), (9, [2, 6, 8, 9, 11, 12, 13]), (10, [2, 6, 8, 9, 11, 12]), (11, [6, 8, 9, 11, 61]), (12, [6, 8, 9, 11]), (13, [6, 7])], []⟩
def b112 : C :=
  .seq
 (.reg [⟨(some 3), .box 26 (.t 0), none⟩,
 ⟨(some 6), .alloc 26 [(.s []), (.s [])], none⟩,
 ⟨(some 7), .move (.c (.i .i64 0)), none⟩] [1, 2, 3, 6])
 (.seq
 (.reg [⟨(some 14), .move (.t 1), none⟩,
 ⟨(some 15), .bin .lss (.t 14) (.c (.i .i64 0)), none⟩,
 ⟨(some 16), .move (.t 15), none⟩,
 ⟨(some 17), .move (.t 1), some (16, false)⟩,
 ⟨(some 18), .bin .gtr (.t 17) (.c (.i .i64 30)), some (16, false)⟩,
 ⟨(some 19), .pick (.t 16) (.c (.b true)) (.t 18), none⟩,
 ⟨(some 20), .build [(.b false)] [(0, 1, (.t 19))], none⟩,
 ⟨(some 21), .box 78 (.t 20), none⟩,
 ⟨(some 8), .move (.t 21), none⟩] [1, 2, 3, 6, 8])
 (.seq
 (.reg [⟨(some 22), .move (.t 8), none⟩,
 ⟨(some 23), .load true 2 (.t 3), none⟩,
 ⟨(some 24), .bslice false 26 2 [(.s []), (.s [])] 1 [(0, (.t 23))], none⟩,
 ⟨(some 25), .call false (.f 55) [(.t 22), (.t 24)], none⟩] [1, 2, 3, 6, 8])
 (.seq
 (.seq
 (.reg [⟨(some 26), .move (.t 8), none⟩,
 ⟨(some 27), .nilCheck (.t 26), none⟩,
 ⟨(some 28), .fieldAddr 0 (.t 27), none⟩,
 ⟨(some 29), .load false 1 (.t 28), none⟩] [1, 2, 3, 6, 8, 29])
 (.cond (.t 29)
 (.seq
 (.reg [⟨(some 30), .build [(.s []), (.s [])] [], none⟩,
 ⟨none, .store 2 (.t 6) (.t 30), none⟩,
 ⟨(some 7), .move (.c (.i .i64 40)), none⟩] [6, 7])
 (.ret))
 (.skip)))
 (.seq
 (.reg [⟨(some 31), .move (.t 1), none⟩,
 ⟨(some 32), .call false (.f 120) [(.c (.s [48])), (.t 31)], none⟩,
 ⟨(some 33), .bin .add (.c (.s [49])) (.t 32), none⟩,
 ⟨(some 9), .move (.t 33), none⟩] [2, 3, 6, 8, 9])
 (.seq
 (.reg [⟨(some 34), .move (.t 8), none⟩,
 ⟨(some 35), .fieldAddr 0 (.t 3), none⟩,
 ⟨(some 36), .load false 1 (.t 35), none⟩,
 ⟨(some 37), .move (.t 9), none⟩,
 ⟨(some 38), .call false (.f 56) [(.t 34), (.t 36), (.t 37)], none⟩,
 ⟨(some 10), .move (.t 38), none⟩] [2, 3, 6, 8, 9, 10])
 (.seq
 (.seq
 (.reg [⟨(some 39), .move (.t 8), none⟩,
 ⟨(some 40), .nilCheck (.t 39), none⟩,
 ⟨(some 41), .fieldAddr 0 (.t 40), none⟩,
 ⟨(some 42), .load false 1 (.t 41), none⟩] [2, 3, 6, 8, 9, 10, 42])
 (.cond (.t 42)
 (.seq
 (.reg [⟨(some 43), .build [(.s []), (.s [])] [], none⟩,
 ⟨none, .store 2 (.t 6) (.t 43), none⟩,
 ⟨(some 7), .move (.c (.i .i64 40)), none⟩] [6, 7])
 (.ret))
 (.skip)))
 (.seq
 (.reg [⟨(some 45), .move (.t 10), none⟩,
 ⟨(some 46), .fieldAddr 1 (.t 3), none⟩,
 ⟨(some 47), .load false 1 (.t 46), none⟩,
 ⟨(some 48), .call false (.f 47) [(.t 45), (.t 47)], none⟩,
 ⟨(some 44), .move (.t 48), none⟩,
 ⟨(some 49), .ext (.t 44) 0, none⟩,
 ⟨(some 50), .ext (.t 44) 1, none⟩,
 ⟨(some 51), .ext (.t 44) 2, none⟩,
 ⟨(some 11), .move (.t 49), none⟩,
 ⟨(some 12), .move (.t 50), none⟩,
 ⟨(some 13), .move (.t 51), none⟩] [2, 6, 8, 9, 11, 12, 13])
 (.seq
 (.seq
 (.reg [⟨(some 52), .move (.t 8), none⟩,
 ⟨(some 53), .move (.t 13), none⟩,
 ⟨(some 54), .bin .neq (.t 53) (.c (.i .i64 0)), none⟩,
 ⟨(some 55), .nilCheck (.t 52), none⟩,
 ⟨(some 56), .fieldAddr 0 (.t 55), none⟩,
 ⟨none, .store 1 (.t 56) (.t 54), none⟩] [2, 6, 8, 9, 11, 12])
 (.seq
 (.reg [⟨(some 57), .move (.t 2), none⟩,
 ⟨(some 58), .move (.t 57), none⟩,
 ⟨(some 59), .move (.t 12), some (58, true)⟩,
 ⟨(some 60), .bin .neq (.t 59) (.c (.s [48])), some (58, true)⟩,
 ⟨(some 61), .pick (.t 58) (.t 60) (.c (.b false)), none⟩] [6, 8, 9, 11, 61])
 (.cond (.t 61)
 (.reg [⟨(some 62), .move (.t 8), none⟩,
 ⟨(some 63), .move (.t 11), none⟩,
 ⟨(some 64), .call false (.f 114) [(.t 62), (.f 71), (.t 63), (.c (.s [49]))], none⟩,
 ⟨(some 11), .move (.t 64), none⟩] [6, 8, 9, 11])
 (.skip))))
 (.seq
 (.reg [⟨(some 65), .move (.t 8), none⟩,
 ⟨(some 66), .move (.t 11), none⟩,
 ⟨(some 67), .move (.t 9), none⟩,
 ⟨(some 68), .call false (.f 57) [(.t 65), (.t 66), (.t 67)], none⟩,
 ⟨(some 69), .ext (.t 68) 0, none⟩,
 ⟨(some 70), .ext (.t 68) 1, none⟩,
 ⟨none, .store 2 (.t 6) (.t 69), none⟩,
 ⟨(some 7), .move (.t 70), none⟩] [6, 7])
 (.ret))))))))))
def c112 : SF := ⟨71, [.cell 6 true 2, .t 7], b112, none⟩

/-- workpiece/workpieceref03.FromInt -/
def h113 : Hints := ⟨[(0, [0]), (1, [0, 3]), (2, [0, 3, 4]), (3, [0, 3, 4, 10]), (5, [0, 3, 4, 5]), (6, [0, 3, 4, 5, 16]), (7, [0, 3, 4, 5]), (8, [0, 3, 4]), (4, [0, 3, 4]), (9, [6]), (10, [2])], [(9, 2), (1, 0)]⟩
def l113_0 : C :=
  .seq
 (.seq
 (.reg [⟨(some 9), .move (.t 4), none⟩,
 ⟨(some 10), .bin .neq (.t 9) (.c (.i .i64 0)), none⟩] [0, 3, 4, 10])
 (.cond (.t 10)
 (.skip)
 (.exit 0)))
 (.seq
 (.block 1 (.seq
 (.reg [⟨(some 13), .move (.t 4), none⟩,
 ⟨(some 14), .bin .rem (.t 13) (.c (.i .i64 10)), none⟩,
 ⟨(some 5), .move (.t 14), none⟩] [0, 3, 4, 5])
 (.seq
 (.seq
 (.reg [⟨(some 15), .move (.t 5), none⟩,
 ⟨(some 16), .bin .lss (.t 15) (.c (.i .i64 0)), none⟩] [0, 3, 4, 5, 16])
 (.cond (.t 16)
 (.reg [⟨(some 17), .move (.t 5), none⟩,
 ⟨(some 18), .un .neg (.t 17), none⟩,
 ⟨(some 5), .move (.t 18), none⟩] [0, 3, 4, 5])
 (.skip)))
 (.reg [⟨(some 19), .move (.t 3), none⟩,
 ⟨(some 20), .move (.t 5), none⟩,
 ⟨(some 21), .bslice false 3 1 [(.i .i64 0)] 1 [(0, (.t 20))], none⟩,
 ⟨(some 22), .app 3 1 8 (.t 19) (.t 21), none⟩,
 ⟨(some 3), .move (.t 22), none⟩] [0, 3, 4]))))
 (.reg [⟨(some 11), .move (.t 4), none⟩,
 ⟨(some 12), .bin .quo (.t 11) (.c (.i .i64 10)), none⟩,
 ⟨(some 4), .move (.t 12), none⟩] [0, 3, 4]))
def b113 : C :=
  .seq
 (.reg [⟨(some 2), .move (.c (.s [])), none⟩] [0])
 (.seq
 (.reg [⟨(some 3), .newGr 3 1, none⟩] [0, 3])
 (.seq
 (.seq
 (.reg [⟨(some 8), .move (.t 0), none⟩,
 ⟨(some 4), .move (.t 8), none⟩] [0, 3, 4])
 (.block 0 (.loop l113_0)))
 (.seq
 (.reg [⟨(some 24), .move (.t 0), none⟩,
 ⟨(some 25), .bin .lss (.t 24) (.c (.i .i64 0)), none⟩,
 ⟨(some 26), .frzM (.t 3), none⟩,
 ⟨(some 27), .call false (.f 145) [(.t 25), (.t 26)], none⟩,
 ⟨(some 23), .move (.t 27), none⟩,
 ⟨(some 28), .ext (.t 23) 0, none⟩,
 ⟨(some 29), .ext (.t 23) 1, none⟩,
 ⟨(some 6), .move (.t 28), none⟩,
 ⟨(some 7), .move (.t 29), none⟩] [6])
 (.seq
 (.reg [⟨(some 30), .move (.t 6), none⟩,
 ⟨(some 2), .move (.t 30), none⟩] [2])
 (.ret)))))
def c113 : SF := ⟨31, [.t 2], b113, none⟩

/-- (*workpiece/rational.work).do -/
def h114 : Hints := ⟨[(0, [0, 1, 2, 3]), (1, [0, 1, 2, 3, 14]), (2, [8]), (3, [0, 9, 10]), (4, [9]), (5, [8])], []⟩
def b114 : C :=
  .seq
 (.reg [⟨(some 8), .move (.c (.s [])), none⟩] [0, 1, 2, 3])
 (.seq
 (.seq
 (.reg [⟨(some 11), .move (.t 0), none⟩,
 ⟨(some 12), .nilCheck (.t 11), none⟩,
 ⟨(some 13), .fieldAddr 0 (.t 12), none⟩,
 ⟨(some 14), .load false 1 (.t 13), none⟩] [0, 1, 2, 3, 14])
 (.cond (.t 14)
 (.seq
 (.reg [⟨(some 8), .move (.c (.s [])), none⟩] [8])
 (.ret))
 (.skip)))
 (.seq
 (.reg [⟨(some 16), .move (.t 1), none⟩,
 ⟨(some 17), .move (.t 2), none⟩,
 ⟨(some 18), .move (.t 3), none⟩,
 ⟨(some 19), .call false (.t 16) [(.t 17), (.t 18)], none⟩,
 ⟨(some 15), .move (.t 19), none⟩,
 ⟨(some 20), .ext (.t 15) 0, none⟩,
 ⟨(some 21), .ext (.t 15) 1, none⟩,
 ⟨(some 9), .move (.t 20), none⟩,
 ⟨(some 10), .move (.t 21), none⟩] [0, 9, 10])
 (.seq
 (.reg [⟨(some 22), .move (.t 0), none⟩,
 ⟨(some 23), .move (.t 10), none⟩,
 ⟨(some 24), .bin .neq (.t 23) (.c (.i .i64 0)), none⟩,
 ⟨(some 25), .nilCheck (.t 22), none⟩,
 ⟨(some 26), .fieldAddr 0 (.t 25), none⟩,
 ⟨none, .store 1 (.t 26) (.t 24), none⟩] [9])
 (.seq
 (.reg [⟨(some 27), .move (.t 9), none⟩,
 ⟨(some 8), .move (.t 27), none⟩] [8])
 (.ret)))))
def c114 : SF := ⟨28, [.t 8], b114, none⟩

/-- workpiece/integer.Mul -/
def h115 : Hints := ⟨[(0, [0, 1]), (1, [6, 7, 8]), (2, [6, 7, 17]), (3, [4, 5]), (4, [4, 5])], []⟩
def b115 : C :=
  .seq
 (.reg [⟨(some 4), .move (.c (.s [])), none⟩,
 ⟨(some 5), .move (.c (.i .i64 0)), none⟩] [0, 1])
 (.seq
 (.reg [⟨(some 10), .move (.t 0), none⟩,
 ⟨(some 11), .move (.t 1), none⟩,
 ⟨(some 12), .call false (.f 101) [(.t 10), (.t 11)], none⟩,
 ⟨(some 9), .move (.t 12), none⟩,
 ⟨(some 13), .ext (.t 9) 0, none⟩,
 ⟨(some 14), .ext (.t 9) 1, none⟩,
 ⟨(some 15), .ext (.t 9) 2, none⟩,
 ⟨(some 6), .alloc 103 [(.b false), (.ls [])], none⟩,
 ⟨(some 7), .alloc 103 [(.b false), (.ls [])], none⟩,
 ⟨none, .store 2 (.t 6) (.t 13), none⟩,
 ⟨none, .store 2 (.t 7) (.t 14), none⟩,
 ⟨(some 8), .move (.t 15), none⟩] [6, 7, 8])
 (.seq
 (.seq
 (.reg [⟨(some 16), .move (.t 8), none⟩,
 ⟨(some 17), .un .not (.t 16), none⟩] [6, 7, 17])
 (.cond (.t 17)
 (.seq
 (.reg [⟨(some 4), .move (.c (.s [])), none⟩,
 ⟨(some 5), .move (.c (.i .i64 30)), none⟩] [4, 5])
 (.ret))
 (.skip)))
 (.seq
 (.draw [⟨0, ⟨(some 18), .fieldAddr 0 (.t 6), none⟩, 0, []⟩,
 ⟨1, ⟨(some 19), .load false 1 (.t 18), none⟩, 0, []⟩,
 ⟨2, ⟨(some 20), .fieldAddr 0 (.t 7), none⟩, 0, []⟩,
 ⟨3, ⟨(some 21), .load false 1 (.t 20), none⟩, 0, []⟩,
 ⟨4, ⟨(some 22), .eqB true (.t 19) (.t 21), none⟩, 0, []⟩,
 ⟨5, ⟨(some 23), .fieldAddr 1 (.t 6), none⟩, 0, []⟩,
 ⟨6, ⟨(some 24), .load false 1 (.t 23), none⟩, 0, []⟩,
 ⟨7, ⟨(some 25), .fieldAddr 1 (.t 7), none⟩, 0, []⟩,
 ⟨8, ⟨(some 26), .load false 1 (.t 25), none⟩, 0, []⟩,
 ⟨9, ⟨(some 27), .call false (.f 164) [(.t 24), (.t 26)], none⟩, 1, [3, 1]⟩,
 ⟨10, ⟨(some 28), .build [(.b false), (.ls [])] [(0, 1, (.t 22)), (1, 1, (.t 27))], none⟩, 0, []⟩,
 ⟨11, ⟨(some 29), .call false (.f 106) [(.t 28)], none⟩, 1, []⟩,
 ⟨12, ⟨(some 30), .ext (.t 29) 0, none⟩, 0, []⟩,
 ⟨13, ⟨(some 31), .ext (.t 29) 1, none⟩, 0, []⟩,
 ⟨14, ⟨(some 4), .move (.t 30), none⟩, 0, []⟩,
 ⟨15, ⟨(some 5), .move (.t 31), none⟩, 0, []⟩] [4, 5])
 (.ret))))
def c115 : SF := ⟨32, [.t 4, .t 5], b115, none⟩

/-- (*workpiece/rational.work).quotient -/
def h116 : Hints := ⟨[(0, [0, 1, 2]), (1, [6])], []⟩
def b116 : C :=
  .seq
 (.reg [⟨(some 6), .move (.c (.s [])), none⟩] [0, 1, 2])
 (.seq
 (.reg [⟨(some 7), .move (.t 0), none⟩,
 ⟨(some 8), .move (.t 1), none⟩,
 ⟨(some 9), .move (.t 2), none⟩,
 ⟨(some 10), .call false (.f 114) [(.t 7), (.f 165), (.t 8), (.t 9)], none⟩,
 ⟨(some 6), .move (.t 10), none⟩] [6])
 (.ret))
def c116 : SF := ⟨11, [.t 6], b116, none⟩

/-- (workpiece/integer.signed).plus -/
def h117 : Hints := ⟨[(0, [2, 3, 4]), (1, [2, 3, 4, 5]), (3, [2, 3, 4, 19]), (4, [4]), (2, [4]), (5, [4])], []⟩
def b117 : C :=
  .seq
 (.reg [⟨(some 2), .box 103 (.t 0), none⟩,
 ⟨(some 3), .box 103 (.t 1), none⟩,
 ⟨(some 4), .alloc 103 [(.b false), (.ls [])], none⟩] [2, 3, 4])
 (.seq
 (.block 0 (.seq
 (.reg [⟨(some 6), .fieldAddr 0 (.t 2), none⟩,
 ⟨(some 7), .load false 1 (.t 6), none⟩,
 ⟨(some 8), .fieldAddr 0 (.t 3), none⟩,
 ⟨(some 9), .load false 1 (.t 8), none⟩,
 ⟨(some 10), .eqB false (.t 7) (.t 9), none⟩,
 ⟨(some 5), .move (.t 10), none⟩] [2, 3, 4, 5])
 (.cond (.t 5)
 (.seq
 (.draw [⟨0, ⟨(some 11), .fieldAddr 0 (.t 2), none⟩, 0, []⟩,
 ⟨1, ⟨(some 12), .load false 1 (.t 11), none⟩, 0, []⟩,
 ⟨2, ⟨(some 13), .fieldAddr 1 (.t 2), none⟩, 0, []⟩,
 ⟨3, ⟨(some 14), .load false 1 (.t 13), none⟩, 0, []⟩,
 ⟨4, ⟨(some 15), .fieldAddr 1 (.t 3), none⟩, 0, []⟩,
 ⟨5, ⟨(some 16), .load false 1 (.t 15), none⟩, 0, []⟩,
 ⟨6, ⟨(some 17), .call false (.f 103) [(.t 14), (.t 16)], none⟩, 1, [1]⟩,
 ⟨7, ⟨(some 18), .build [(.b false), (.ls [])] [(0, 1, (.t 12)), (1, 1, (.t 17))], none⟩, 0, []⟩,
 ⟨8, ⟨none, .store 2 (.t 4) (.t 18), none⟩, 1, []⟩] [4])
 (.ret))
 (.seq
 (.reg [⟨(some 20), .fieldAddr 1 (.t 2), none⟩,
 ⟨(some 21), .load false 1 (.t 20), none⟩,
 ⟨(some 22), .fieldAddr 1 (.t 3), none⟩,
 ⟨(some 23), .load false 1 (.t 22), none⟩,
 ⟨(some 24), .call false (.f 107) [(.t 21), (.t 23)], none⟩,
 ⟨(some 25), .bin .geq (.t 24) (.c (.i .i64 0)), none⟩,
 ⟨(some 19), .move (.t 25), none⟩] [2, 3, 4, 19])
 (.cond (.t 19)
 (.seq
 (.draw [⟨0, ⟨(some 26), .fieldAddr 0 (.t 2), none⟩, 0, []⟩,
 ⟨1, ⟨(some 27), .load false 1 (.t 26), none⟩, 0, []⟩,
 ⟨2, ⟨(some 28), .fieldAddr 1 (.t 2), none⟩, 0, []⟩,
 ⟨3, ⟨(some 29), .load false 1 (.t 28), none⟩, 0, []⟩,
 ⟨4, ⟨(some 30), .fieldAddr 1 (.t 3), none⟩, 0, []⟩,
 ⟨5, ⟨(some 31), .load false 1 (.t 30), none⟩, 0, []⟩,
 ⟨6, ⟨(some 32), .call false (.f 105) [(.t 29), (.t 31)], none⟩, 1, [1]⟩,
 ⟨7, ⟨(some 33), .build [(.b false), (.ls [])] [(0, 1, (.t 27)), (1, 1, (.t 32))], none⟩, 0, []⟩,
 ⟨8, ⟨none, .store 2 (.t 4) (.t 33), none⟩, 1, []⟩] [4])
 (.ret))
 (.skip))))))
 (.seq
 (.draw [⟨0, ⟨(some 34), .fieldAddr 0 (.t 3), none⟩, 0, []⟩,
 ⟨1, ⟨(some 35), .load false 1 (.t 34), none⟩, 0, []⟩,
 ⟨2, ⟨(some 36), .fieldAddr 1 (.t 3), none⟩, 0, []⟩,
 ⟨3, ⟨(some 37), .load false 1 (.t 36), none⟩, 0, []⟩,
 ⟨4, ⟨(some 38), .fieldAddr 1 (.t 2), none⟩, 0, []⟩,
 ⟨5, ⟨(some 39), .load false 1 (.t 38), none⟩, 0, []⟩,
 ⟨6, ⟨(some 40), .call false (.f 105) [(.t 37), (.t 39)], none⟩, 1, [1]⟩,
 ⟨7, ⟨(some 41), .build [(.b false), (.ls [])] [(0, 1, (.t 35)), (1, 1, (.t 40))], none⟩, 0, []⟩,
 ⟨8, ⟨none, .store 2 (.t 4) (.t 41), none⟩, 1, []⟩] [4])
 (.ret)))
def c117 : SF := ⟨42, [.cell 4 true 2], b117, none⟩

/-- workpiece/workpieceref03.Add -/
def h119 : Hints := ⟨[(0, [0, 1]), (1, [0, 1, 17]), (2, [4, 5]), (3, [1, 6, 7]), (4, [6, 7, 8, 9]), (5, [4, 5])], []⟩
def b119 : C :=
  .seq
 (.reg [⟨(some 4), .move (.c (.s [])), none⟩,
 ⟨(some 5), .move (.c (.i .i64 0)), none⟩] [0, 1])
 (.seq
 (.seq
 (.reg [⟨(some 10), .move (.t 0), none⟩,
 ⟨(some 11), .call false (.f 79) [(.t 10)], none⟩,
 ⟨(some 12), .un .not (.t 11), none⟩,
 ⟨(some 13), .move (.t 12), none⟩,
 ⟨(some 14), .move (.t 1), some (13, false)⟩,
 ⟨(some 15), .call false (.f 79) [(.t 14)], some (13, false)⟩,
 ⟨(some 16), .un .not (.t 15), some (13, false)⟩,
 ⟨(some 17), .pick (.t 13) (.c (.b true)) (.t 16), none⟩] [0, 1, 17])
 (.cond (.t 17)
 (.seq
 (.reg [⟨(some 4), .move (.c (.s [])), none⟩,
 ⟨(some 5), .move (.c (.i .i64 30)), none⟩] [4, 5])
 (.ret))
 (.skip)))
 (.seq
 (.reg [⟨(some 19), .move (.t 0), none⟩,
 ⟨(some 20), .call false (.f 124) [(.t 19)], none⟩,
 ⟨(some 18), .move (.t 20), none⟩,
 ⟨(some 21), .ext (.t 18) 0, none⟩,
 ⟨(some 22), .ext (.t 18) 1, none⟩,
 ⟨(some 6), .move (.t 21), none⟩,
 ⟨(some 7), .move (.t 22), none⟩] [1, 6, 7])
 (.seq
 (.reg [⟨(some 24), .move (.t 1), none⟩,
 ⟨(some 25), .call false (.f 124) [(.t 24)], none⟩,
 ⟨(some 23), .move (.t 25), none⟩,
 ⟨(some 26), .ext (.t 23) 0, none⟩,
 ⟨(some 27), .ext (.t 23) 1, none⟩,
 ⟨(some 8), .move (.t 26), none⟩,
 ⟨(some 9), .move (.t 27), none⟩] [6, 7, 8, 9])
 (.seq
 (.reg [⟨(some 28), .move (.t 6), none⟩,
 ⟨(some 29), .move (.t 7), none⟩,
 ⟨(some 30), .move (.t 8), none⟩,
 ⟨(some 31), .move (.t 9), none⟩,
 ⟨(some 32), .call false (.f 125) [(.t 28), (.t 29), (.t 30), (.t 31)], none⟩,
 ⟨(some 33), .ext (.t 32) 0, none⟩,
 ⟨(some 34), .ext (.t 32) 1, none⟩,
 ⟨(some 4), .move (.t 33), none⟩,
 ⟨(some 5), .move (.t 34), none⟩] [4, 5])
 (.ret)))))
def c119 : SF := ⟨35, [.t 4, .t 5], b119, none⟩

/-- workpiece/integer.Root -/
def h121 : Hints := ⟨[(0, [0]), (1, [4, 6]), (2, [4, 23]), (3, [2, 3]), (4, [4, 7]), (5, [4, 7, 35]), (6, [4, 7, 8]), (7, [4, 7, 10]), (8, [4, 7, 10, 54]), (9, [2, 3]), (10, [4, 7]), (11, [2, 3])], [(4, 7)]⟩
def l121_0 : C :=
  .seq
 (.seq
 (.reg [⟨(some 32), .fieldAddr 1 (.t 4), none⟩,
 ⟨(some 33), .load false 1 (.t 32), none⟩,
 ⟨(some 34), .len false (.t 33), none⟩,
 ⟨(some 35), .bin .gtr (.t 34) (.c (.i .i64 0)), none⟩] [4, 7, 35])
 (.cond (.t 35)
 (.skip)
 (.exit 0)))
 (.block 1 (.seq
 (.reg [⟨(some 37), .fieldAddr 1 (.t 4), none⟩,
 ⟨(some 38), .load false 1 (.t 37), none⟩,
 ⟨(some 39), .move (.t 7), none⟩,
 ⟨(some 40), .call false (.f 102) [(.t 38), (.t 39)], none⟩,
 ⟨(some 36), .move (.t 40), none⟩,
 ⟨(some 41), .ext (.t 36) 0, none⟩,
 ⟨(some 42), .ext (.t 36) 1, none⟩,
 ⟨(some 8), .move (.t 41), none⟩,
 ⟨(some 9), .move (.t 42), none⟩] [4, 7, 8])
 (.seq
 (.reg [⟨(some 44), .move (.t 7), none⟩,
 ⟨(some 45), .move (.t 8), none⟩,
 ⟨(some 46), .call false (.f 103) [(.t 44), (.t 45)], none⟩,
 ⟨(some 47), .bslice false 3 1 [(.i .i64 0)] 1 [(0, (.c (.i .i64 2)))], none⟩,
 ⟨(some 48), .call false (.f 102) [(.t 46), (.t 47)], none⟩,
 ⟨(some 43), .move (.t 48), none⟩,
 ⟨(some 49), .ext (.t 43) 0, none⟩,
 ⟨(some 50), .ext (.t 43) 1, none⟩,
 ⟨(some 10), .move (.t 49), none⟩,
 ⟨(some 11), .move (.t 50), none⟩] [4, 7, 10])
 (.seq
 (.seq
 (.reg [⟨(some 51), .move (.t 10), none⟩,
 ⟨(some 52), .move (.t 7), none⟩,
 ⟨(some 53), .call false (.f 107) [(.t 51), (.t 52)], none⟩,
 ⟨(some 54), .bin .geq (.t 53) (.c (.i .i64 0)), none⟩] [4, 7, 10, 54])
 (.cond (.t 54)
 (.seq
 (.reg [⟨(some 55), .move (.t 7), none⟩,
 ⟨(some 56), .build [(.b false), (.ls [])] [(1, 1, (.t 55))], none⟩,
 ⟨(some 57), .call false (.f 106) [(.t 56)], none⟩,
 ⟨(some 58), .ext (.t 57) 0, none⟩,
 ⟨(some 59), .ext (.t 57) 1, none⟩,
 ⟨(some 2), .move (.t 58), none⟩,
 ⟨(some 3), .move (.t 59), none⟩] [2, 3])
 (.ret))
 (.skip)))
 (.reg [⟨(some 60), .move (.t 10), none⟩,
 ⟨(some 7), .move (.t 60), none⟩] [4, 7])))))
def b121 : C :=
  .seq
 (.reg [⟨(some 2), .move (.c (.s [])), none⟩,
 ⟨(some 3), .move (.c (.i .i64 0)), none⟩] [0])
 (.seq
 (.reg [⟨(some 13), .move (.t 0), none⟩,
 ⟨(some 14), .call false (.f 101) [(.t 13), (.c (.s [48]))], none⟩,
 ⟨(some 12), .move (.t 14), none⟩,
 ⟨(some 15), .ext (.t 12) 0, none⟩,
 ⟨(some 16), .ext (.t 12) 1, none⟩,
 ⟨(some 17), .ext (.t 12) 2, none⟩,
 ⟨(some 4), .alloc 103 [(.b false), (.ls [])], none⟩,
 ⟨(some 5), .alloc 103 [(.b false), (.ls [])], none⟩,
 ⟨none, .store 2 (.t 4) (.t 15), none⟩,
 ⟨none, .store 2 (.t 5) (.t 16), none⟩,
 ⟨(some 6), .move (.t 17), none⟩] [4, 6])
 (.seq
 (.seq
 (.reg [⟨(some 18), .move (.t 6), none⟩,
 ⟨(some 19), .un .not (.t 18), none⟩,
 ⟨(some 20), .move (.t 19), none⟩,
 ⟨(some 21), .fieldAddr 0 (.t 4), some (20, false)⟩,
 ⟨(some 22), .load false 1 (.t 21), some (20, false)⟩,
 ⟨(some 23), .pick (.t 20) (.c (.b true)) (.t 22), none⟩] [4, 23])
 (.cond (.t 23)
 (.seq
 (.reg [⟨(some 2), .move (.c (.s [])), none⟩,
 ⟨(some 3), .move (.c (.i .i64 30)), none⟩] [2, 3])
 (.ret))
 (.skip)))
 (.seq
 (.reg [⟨(some 24), .fieldAddr 1 (.t 4), none⟩,
 ⟨(some 25), .load false 1 (.t 24), none⟩,
 ⟨(some 26), .len false (.t 25), none⟩,
 ⟨(some 27), .bin .add (.t 26) (.c (.i .i64 1)), none⟩,
 ⟨(some 28), .bin .quo (.t 27) (.c (.i .i64 2)), none⟩,
 ⟨(some 29), .mkSl 3 1 8 [(.i .i64 0)] (.t 28) (.t 28), none⟩,
 ⟨(some 30), .bslice false 3 1 [(.i .i64 0)] 1 [(0, (.c (.i .i64 1)))], none⟩,
 ⟨(some 31), .appF 3 1 8 (.t 29) (.t 30), none⟩,
 ⟨(some 7), .move (.t 31), none⟩] [4, 7])
 (.seq
 (.block 0 (.loop l121_0))
 (.seq
 (.reg [⟨(some 2), .move (.c (.s [48])), none⟩,
 ⟨(some 3), .move (.c (.i .i64 0)), none⟩] [2, 3])
 (.ret))))))
def c121 : SF := ⟨61, [.t 2, .t 3], b121, none⟩

/-- slices.MinFunc[[]workpiece/api.Ratio,workpiece/api.Ratio] -/
def h122 : Hints := ⟨[(0, [0, 1, 4]), (1, [0, 1, 4, 9]), (2, [0, 1, 4]), (3, [0, 1, 4, 5]), (4, [0, 1, 4, 5, 6]), (5, [0, 1, 4, 5, 6, 17]), (7, [0, 1, 4, 5, 6, 27]), (8, [0, 1, 4, 5, 6]), (6, [0, 1, 4, 5, 6]), (9, [4])], []⟩
def l122_0 : C :=
  .seq
 (.seq
 (.reg [⟨(some 14), .move (.t 6), none⟩,
 ⟨(some 15), .move (.t 0), none⟩,
 ⟨(some 16), .len false (.t 15), none⟩,
 ⟨(some 17), .bin .lss (.t 14) (.t 16), none⟩] [0, 1, 4, 5, 6, 17])
 (.cond (.t 17)
 (.skip)
 (.exit 0)))
 (.seq
 (.block 1 (.seq
 (.draw [⟨0, ⟨(some 20), .move (.t 1), none⟩, 0, []⟩,
 ⟨1, ⟨(some 21), .move (.t 0), none⟩, 0, []⟩,
 ⟨2, ⟨(some 22), .move (.t 6), none⟩, 0, []⟩,
 ⟨3, ⟨(some 23), .ixS 2 (.t 21) (.t 22), none⟩, 0, []⟩,
 ⟨4, ⟨(some 24), .load true 2 (.t 23), none⟩, 0, []⟩,
 ⟨5, ⟨(some 25), .load true 2 (.t 5), none⟩, 0, []⟩,
 ⟨6, ⟨(some 26), .call false (.t 20) [(.t 24), (.t 25)], none⟩, 1, []⟩,
 ⟨7, ⟨(some 27), .bin .lss (.t 26) (.c (.i .i64 0)), none⟩, 0, []⟩] [0, 1, 4, 5, 6, 27])
 (.cond (.t 27)
 (.reg [⟨(some 28), .move (.t 0), none⟩,
 ⟨(some 29), .move (.t 6), none⟩,
 ⟨(some 30), .ixS 2 (.t 28) (.t 29), none⟩,
 ⟨(some 31), .load true 2 (.t 30), none⟩,
 ⟨none, .store 2 (.t 5) (.t 31), none⟩] [0, 1, 4, 5, 6])
 (.skip))))
 (.reg [⟨(some 18), .move (.t 6), none⟩,
 ⟨(some 19), .bin .add (.t 18) (.c (.i .i64 1)), none⟩,
 ⟨(some 6), .move (.t 19), none⟩] [0, 1, 4, 5, 6]))
def b122 : C :=
  .seq
 (.reg [⟨(some 4), .alloc 26 [(.s []), (.s [])], none⟩] [0, 1, 4])
 (.seq
 (.seq
 (.reg [⟨(some 7), .move (.t 0), none⟩,
 ⟨(some 8), .len false (.t 7), none⟩,
 ⟨(some 9), .bin .lss (.t 8) (.c (.i .i64 1)), none⟩] [0, 1, 4, 9])
 (.cond (.t 9)
 (.reg [⟨(some 10), .mkI 9 (.c (.s [115, 108, 105, 99, 101, 115, 46, 77, 105, 110, 70, 117, 110, 99, 58, 32, 101, 109, 112, 116, 121, 32, 108, 105, 115, 116])), none⟩,
 ⟨none, .panic (.t 10), none⟩] [0, 1, 4])
 (.skip)))
 (.seq
 (.reg [⟨(some 11), .move (.t 0), none⟩,
 ⟨(some 12), .ixS 2 (.t 11) (.c (.i .i64 0)), none⟩,
 ⟨(some 13), .load true 2 (.t 12), none⟩,
 ⟨(some 5), .alloc 26 [(.s []), (.s [])], none⟩,
 ⟨none, .store 2 (.t 5) (.t 13), none⟩] [0, 1, 4, 5])
 (.seq
 (.seq
 (.reg [⟨(some 6), .move (.c (.i .i64 1)), none⟩] [0, 1, 4, 5, 6])
 (.block 0 (.loop l122_0)))
 (.seq
 (.reg [⟨(some 32), .load true 2 (.t 5), none⟩,
 ⟨none, .store 2 (.t 4) (.t 32), none⟩] [4])
 (.ret)))))
def c122 : SF := ⟨33, [.cell 4 true 2], b122, none⟩

/-- slices.MaxFunc[[]workpiece/api.Ratio,workpiece/api.Ratio] -/
def h123 : Hints := ⟨[(0, [0, 1, 4]), (1, [0, 1, 4, 9]), (2, [0, 1, 4]), (3, [0, 1, 4, 5]), (4, [0, 1, 4, 5, 6]), (5, [0, 1, 4, 5, 6, 17]), (7, [0, 1, 4, 5, 6, 27]), (8, [0, 1, 4, 5, 6]), (6, [0, 1, 4, 5, 6]), (9, [4])], []⟩
def l123_0 : C :=
  .seq
 (.seq
 (.reg [⟨(some 14), .move (.t 6), none⟩,
 ⟨(some 15), .move (.t 0), none⟩,
 ⟨(some 16), .len false (.t 15), none⟩,
 ⟨(some 17), .bin .lss (.t 14) (.t 16), none⟩] [0, 1, 4, 5, 6, 17])
 (.cond (.t 17)
 (.skip)
 (.exit 0)))
 (.seq
 (.block 1 (.seq
 (.draw [⟨0, ⟨(some 20), .move (.t 1), none⟩, 0, []⟩,
 ⟨1, ⟨(some 21), .move (.t 0), none⟩, 0, []⟩,
 ⟨2, ⟨(some 22), .move (.t 6), none⟩, 0, []⟩,
 ⟨3, ⟨(some 23), .ixS 2 (.t 21) (.t 22), none⟩, 0, []⟩,
 ⟨4, ⟨(some 24), .load true 2 (.t 23), none⟩, 0, []⟩,
 ⟨5, ⟨(some 25), .load true 2 (.t 5), none⟩, 0, []⟩,
 ⟨6, ⟨(some 26), .call false (.t 20) [(.t 24), (.t 25)], none⟩, 1, []⟩,
 ⟨7, ⟨(some 27), .bin .gtr (.t 26) (.c (.i .i64 0)), none⟩, 0, []⟩] [0, 1, 4, 5, 6, 27])
 (.cond (.t 27)
 (.reg [⟨(some 28), .move (.t 0), none⟩,
 ⟨(some 29), .move (.t 6), none⟩,
 ⟨(some 30), .ixS 2 (.t 28) (.t 29), none⟩,
 ⟨(some 31), .load true 2 (.t 30), none⟩,
 ⟨none, .store 2 (.t 5) (.t 31), none⟩] [0, 1, 4, 5, 6])
 (.skip))))
 (.reg [⟨(some 18), .move (.t 6), none⟩,
 ⟨(some 19), .bin .add (.t 18) (.c (.i .i64 1)), none⟩,
 ⟨(some 6), .move (.t 19), none⟩] [0, 1, 4, 5, 6]))
def b123 : C :=
  .seq
 (.reg [⟨(some 4), .alloc 26 [(.s []), (.s [])], none⟩] [0, 1, 4])
 (.seq
 (.seq
 (.reg [⟨(some 7), .move (.t 0), none⟩,
 ⟨(some 8), .len false (.t 7), none⟩,
 ⟨(some 9), .bin .lss (.t 8) (.c (.i .i64 1)), none⟩] [0, 1, 4, 9])
 (.cond (.t 9)
 (.reg [⟨(some 10), .mkI 9 (.c (.s [115, 108, 105, 99, 101, 115, 46, 77, 97, 120, 70, 117, 110, 99, 58, 32, 101, 109, 112, 116, 121, 32, 108, 105, 115, 116])), none⟩,
 ⟨none, .panic (.t 10), none⟩] [0, 1, 4])
 (.skip)))
 (.seq
 (.reg [⟨(some 11), .move (.t 0), none⟩,
 ⟨(some 12), .ixS 2 (.t 11) (.c (.i .i64 0)), none⟩,
 ⟨(some 13), .load true 2 (.t 12), none⟩,
 ⟨(some 5), .alloc 26 [(.s []), (.s [])], none⟩,
 ⟨none, .store 2 (.t 5) (.t 13), none⟩] [0, 1, 4, 5])
 (.seq
 (.seq
 (.reg [⟨(some 6), .move (.c (.i .i64 1)), none⟩] [0, 1, 4, 5, 6])
 (.block 0 (.loop l123_0)))
 (.seq
 (.reg [⟨(some 32), .load true 2 (.t 5), none⟩,
 ⟨none, .store 2 (.t 4) (.t 32), none⟩] [4])
 (.ret)))))
def c123 : SF := ⟨33, [.cell 4 true 2], b123, none⟩

/-- workpiece/workpieceref03.digits -/
def h124 : Hints := ⟨[(0, [0]), (1, [0, 4]), (2, [0, 4, 10]), (3, [0, 4]), (4, [0, 4, 5]), (5, [0, 4, 5, 6]), (6, [0, 4, 5, 6, 21]), (8, [0, 4, 5, 6]), (7, [0, 4, 5, 6]), (9, [2, 3])], [(4, 0)]⟩
def l124_0 : C :=
  .seq
 (.seq
 (.reg [⟨(some 16), .move (.t 6), none⟩,
 ⟨(some 17), .bin .geq (.t 16) (.c (.i .i64 0)), none⟩,
 ⟨(some 18), .move (.t 17), none⟩,
 ⟨(some 19), .move (.t 0), some (18, true)⟩,
 ⟨(some 20), .bin .neq (.t 19) (.c (.s [48])), some (18, true)⟩,
 ⟨(some 21), .pick (.t 18) (.t 20) (.c (.b false)), none⟩] [0, 4, 5, 6, 21])
 (.cond (.t 21)
 (.skip)
 (.exit 0)))
 (.seq
 (.block 1 (.reg [⟨(some 24), .move (.t 5), none⟩,
 ⟨(some 25), .move (.t 0), none⟩,
 ⟨(some 26), .move (.t 6), none⟩,
 ⟨(some 27), .ixStr (.t 25) (.t 26), none⟩,
 ⟨(some 28), .bin .sub (.t 27) (.c (.i .u8 48)), none⟩,
 ⟨(some 29), .conv .i64 (.t 28), none⟩,
 ⟨(some 30), .bslice false 3 1 [(.i .i64 0)] 1 [(0, (.t 29))], none⟩,
 ⟨(some 31), .app 3 1 8 (.t 24) (.t 30), none⟩,
 ⟨(some 5), .move (.t 31), none⟩] [0, 4, 5, 6]))
 (.reg [⟨(some 22), .move (.t 6), none⟩,
 ⟨(some 23), .bin .sub (.t 22) (.c (.i .i64 1)), none⟩,
 ⟨(some 6), .move (.t 23), none⟩] [0, 4, 5, 6]))
def b124 : C :=
  .seq
 (.reg [⟨(some 2), .move (.c (.b false)), none⟩,
 ⟨(some 3), .move (.c (.ls [])), none⟩] [0])
 (.seq
 (.reg [⟨(some 7), .move (.t 0), none⟩,
 ⟨(some 8), .ixStr (.t 7) (.c (.i .i64 0)), none⟩,
 ⟨(some 9), .bin .eql (.t 8) (.c (.i .u8 45)), none⟩,
 ⟨(some 4), .move (.t 9), none⟩] [0, 4])
 (.seq
 (.seq
 (.reg [⟨(some 10), .move (.t 4), none⟩] [0, 4, 10])
 (.cond (.t 10)
 (.reg [⟨(some 11), .move (.t 0), none⟩,
 ⟨(some 12), .slS (.t 11) (some (.c (.i .i64 1))) none, none⟩,
 ⟨(some 0), .move (.t 12), none⟩] [0, 4])
 (.skip)))
 (.seq
 (.reg [⟨(some 5), .newGr 3 1, none⟩] [0, 4, 5])
 (.seq
 (.seq
 (.reg [⟨(some 13), .move (.t 0), none⟩,
 ⟨(some 14), .len true (.t 13), none⟩,
 ⟨(some 15), .bin .sub (.t 14) (.c (.i .i64 1)), none⟩,
 ⟨(some 6), .move (.t 15), none⟩] [0, 4, 5, 6])
 (.block 0 (.loop l124_0)))
 (.seq
 (.reg [⟨(some 32), .move (.t 4), none⟩,
 ⟨(some 33), .move (.t 5), none⟩,
 ⟨(some 2), .move (.t 32), none⟩,
 ⟨(some 3), .move (.t 33), none⟩] [2, 3])
 (.ret))))))
def c124 : SF := ⟨34, [.t 2, .t 3], b124, none⟩

/-- workpiece/workpieceref03.sum -/
def h125 : Hints := ⟨[(0, [0, 1, 2, 3]), (1, [0, 1, 2, 3, 10]), (2, [0, 1, 2, 3, 10]), (3, [1, 2, 3, 10, 15]), (5, [1, 2, 3, 10, 22]), (7, [1, 3, 10]), (8, [10, 11]), (6, [10, 11]), (4, [10, 11]), (9, [8, 9])], []⟩
def b125 : C :=
  .seq
 (.reg [⟨(some 8), .move (.c (.s [])), none⟩,
 ⟨(some 9), .move (.c (.i .i64 0)), none⟩] [0, 1, 2, 3])
 (.seq
 (.reg [⟨(some 12), .move (.t 0), none⟩,
 ⟨(some 10), .move (.t 12), none⟩] [0, 1, 2, 3, 10])
 (.seq
 (.reg [⟨(some 11), .move (.c (.ls [])), none⟩] [0, 1, 2, 3, 10])
 (.seq
 (.seq
 (.reg [⟨(some 13), .move (.t 0), none⟩,
 ⟨(some 14), .move (.t 2), none⟩,
 ⟨(some 15), .eqB false (.t 13) (.t 14), none⟩] [1, 2, 3, 10, 15])
 (.cond (.t 15)
 (.reg [⟨(some 16), .move (.t 1), none⟩,
 ⟨(some 17), .move (.t 3), none⟩,
 ⟨(some 18), .call false (.f 143) [(.t 16), (.t 17)], none⟩,
 ⟨(some 11), .move (.t 18), none⟩] [10, 11])
 (.seq
 (.reg [⟨(some 19), .move (.t 1), none⟩,
 ⟨(some 20), .move (.t 3), none⟩,
 ⟨(some 21), .call false (.f 126) [(.t 19), (.t 20)], none⟩,
 ⟨(some 22), .bin .geq (.t 21) (.c (.i .i64 0)), none⟩] [1, 2, 3, 10, 22])
 (.cond (.t 22)
 (.reg [⟨(some 23), .move (.t 1), none⟩,
 ⟨(some 24), .move (.t 3), none⟩,
 ⟨(some 25), .call false (.f 144) [(.t 23), (.t 24)], none⟩,
 ⟨(some 11), .move (.t 25), none⟩] [10, 11])
 (.seq
 (.reg [⟨(some 26), .move (.t 2), none⟩,
 ⟨(some 10), .move (.t 26), none⟩] [1, 3, 10])
 (.reg [⟨(some 27), .move (.t 3), none⟩,
 ⟨(some 28), .move (.t 1), none⟩,
 ⟨(some 29), .call false (.f 144) [(.t 27), (.t 28)], none⟩,
 ⟨(some 11), .move (.t 29), none⟩] [10, 11]))))))
 (.seq
 (.reg [⟨(some 30), .move (.t 10), none⟩,
 ⟨(some 31), .move (.t 11), none⟩,
 ⟨(some 32), .call false (.f 128) [(.t 30), (.t 31)], none⟩,
 ⟨(some 33), .ext (.t 32) 0, none⟩,
 ⟨(some 34), .ext (.t 32) 1, none⟩,
 ⟨(some 8), .move (.t 33), none⟩,
 ⟨(some 9), .move (.t 34), none⟩] [8, 9])
 (.ret)))))
def c125 : SF := ⟨35, [.t 8, .t 9], b125, none⟩

/-- workpiece/workpieceref03.order -/
def h126 : Hints := ⟨[(0, [0, 1]), (1, [0, 1, 10]), (2, [15]), (3, [4]), (4, [4]), (5, [0, 1, 5]), (6, [0, 1, 5, 20]), (8, [0, 1, 5, 31]), (9, [40]), (10, [4]), (11, [4]), (7, [0, 1, 5]), (12, [4])], []⟩
def l126_0 : C :=
  .seq
 (.seq
 (.reg [⟨(some 19), .move (.t 5), none⟩,
 ⟨(some 20), .bin .geq (.t 19) (.c (.i .i64 0)), none⟩] [0, 1, 5, 20])
 (.cond (.t 20)
 (.skip)
 (.exit 0)))
 (.seq
 (.block 1 (.seq
 (.draw [⟨0, ⟨(some 23), .move (.t 0), none⟩, 0, []⟩,
 ⟨1, ⟨(some 24), .move (.t 5), none⟩, 0, []⟩,
 ⟨2, ⟨(some 25), .ixS 1 (.t 23) (.t 24), none⟩, 0, []⟩,
 ⟨3, ⟨(some 26), .load false 1 (.t 25), none⟩, 0, []⟩,
 ⟨4, ⟨(some 27), .move (.t 1), none⟩, 0, []⟩,
 ⟨5, ⟨(some 28), .move (.t 5), none⟩, 0, []⟩,
 ⟨6, ⟨(some 29), .ixS 1 (.t 27) (.t 28), none⟩, 0, []⟩,
 ⟨7, ⟨(some 30), .load false 1 (.t 29), none⟩, 0, []⟩,
 ⟨8, ⟨(some 31), .bin .neq (.t 26) (.t 30), none⟩, 0, []⟩] [0, 1, 5, 31])
 (.cond (.t 31)
 (.seq
 (.seq
 (.draw [⟨0, ⟨(some 32), .move (.t 0), none⟩, 0, []⟩,
 ⟨1, ⟨(some 33), .move (.t 5), none⟩, 0, []⟩,
 ⟨2, ⟨(some 34), .ixS 1 (.t 32) (.t 33), none⟩, 0, []⟩,
 ⟨3, ⟨(some 35), .load false 1 (.t 34), none⟩, 0, []⟩,
 ⟨4, ⟨(some 36), .move (.t 1), none⟩, 0, []⟩,
 ⟨5, ⟨(some 37), .move (.t 5), none⟩, 0, []⟩,
 ⟨6, ⟨(some 38), .ixS 1 (.t 36) (.t 37), none⟩, 0, []⟩,
 ⟨7, ⟨(some 39), .load false 1 (.t 38), none⟩, 0, []⟩,
 ⟨8, ⟨(some 40), .bin .lss (.t 35) (.t 39), none⟩, 0, []⟩] [40])
 (.cond (.t 40)
 (.seq
 (.reg [⟨(some 4), .move (.c (.i .i64 (-1))), none⟩] [4])
 (.ret))
 (.skip)))
 (.seq
 (.reg [⟨(some 4), .move (.c (.i .i64 1)), none⟩] [4])
 (.ret)))
 (.skip))))
 (.reg [⟨(some 21), .move (.t 5), none⟩,
 ⟨(some 22), .bin .sub (.t 21) (.c (.i .i64 1)), none⟩,
 ⟨(some 5), .move (.t 22), none⟩] [0, 1, 5]))
def b126 : C :=
  .seq
 (.reg [⟨(some 4), .move (.c (.i .i64 0)), none⟩] [0, 1])
 (.seq
 (.seq
 (.reg [⟨(some 6), .move (.t 0), none⟩,
 ⟨(some 7), .len false (.t 6), none⟩,
 ⟨(some 8), .move (.t 1), none⟩,
 ⟨(some 9), .len false (.t 8), none⟩,
 ⟨(some 10), .bin .neq (.t 7) (.t 9), none⟩] [0, 1, 10])
 (.cond (.t 10)
 (.seq
 (.seq
 (.reg [⟨(some 11), .move (.t 0), none⟩,
 ⟨(some 12), .len false (.t 11), none⟩,
 ⟨(some 13), .move (.t 1), none⟩,
 ⟨(some 14), .len false (.t 13), none⟩,
 ⟨(some 15), .bin .lss (.t 12) (.t 14), none⟩] [15])
 (.cond (.t 15)
 (.seq
 (.reg [⟨(some 4), .move (.c (.i .i64 (-1))), none⟩] [4])
 (.ret))
 (.skip)))
 (.seq
 (.reg [⟨(some 4), .move (.c (.i .i64 1)), none⟩] [4])
 (.ret)))
 (.skip)))
 (.seq
 (.seq
 (.reg [⟨(some 16), .move (.t 0), none⟩,
 ⟨(some 17), .len false (.t 16), none⟩,
 ⟨(some 18), .bin .sub (.t 17) (.c (.i .i64 1)), none⟩,
 ⟨(some 5), .move (.t 18), none⟩] [0, 1, 5])
 (.block 0 (.loop l126_0)))
 (.seq
 (.reg [⟨(some 4), .move (.c (.i .i64 0)), none⟩] [4])
 (.ret))))
def c126 : SF := ⟨41, [.t 4], b126, none⟩

/-- workpiece/workpieceref03.divided -/
def h127 : Hints := ⟨[(0, [0, 1]), (1, [0, 1, 6]), (2, [0, 1, 6, 7]), (3, [0, 1, 6, 7, 8]), (4, [0, 1, 6, 7, 8, 16]), (6, [0, 1, 6, 7, 8]), (7, [0, 1, 6, 7, 8, 30]), (8, [0, 1, 6, 7, 8]), (9, [0, 1, 6, 7, 8]), (5, [0, 1, 6, 7, 8]), (10, [4, 5])], [(6, 4), (6, 6), (10, 0)]⟩
def l127_0 : C :=
  .seq
 (.seq
 (.reg [⟨(some 27), .move (.t 7), none⟩,
 ⟨(some 28), .move (.t 1), none⟩,
 ⟨(some 29), .call false (.f 126) [(.t 27), (.t 28)], none⟩,
 ⟨(some 30), .bin .geq (.t 29) (.c (.i .i64 0)), none⟩] [0, 1, 6, 7, 8, 30])
 (.cond (.t 30)
 (.skip)
 (.exit 2)))
 (.block 3 (.seq
 (.reg [⟨(some 31), .move (.t 7), none⟩,
 ⟨(some 32), .move (.t 1), none⟩,
 ⟨(some 33), .call false (.f 144) [(.t 31), (.t 32)], none⟩,
 ⟨(some 7), .move (.t 33), none⟩] [0, 1, 6, 7, 8])
 (.reg [⟨(some 34), .move (.t 6), none⟩,
 ⟨(some 35), .move (.t 8), none⟩,
 ⟨(some 36), .ixS 1 (.t 34) (.t 35), none⟩,
 ⟨(some 37), .load false 1 (.t 36), none⟩,
 ⟨(some 38), .bin .add (.t 37) (.c (.i .i64 1)), none⟩,
 ⟨(some 39), .ixS 1 (.t 34) (.t 35), none⟩,
 ⟨none, .store 1 (.t 39) (.t 38), none⟩] [0, 1, 6, 7, 8])))
def l127_1 : C :=
  .seq
 (.seq
 (.reg [⟨(some 15), .move (.t 8), none⟩,
 ⟨(some 16), .bin .geq (.t 15) (.c (.i .i64 0)), none⟩] [0, 1, 6, 7, 8, 16])
 (.cond (.t 16)
 (.skip)
 (.exit 0)))
 (.seq
 (.block 1 (.seq
 (.reg [⟨(some 19), .move (.t 0), none⟩,
 ⟨(some 20), .move (.t 8), none⟩,
 ⟨(some 21), .ixS 1 (.t 19) (.t 20), none⟩,
 ⟨(some 22), .load false 1 (.t 21), none⟩,
 ⟨(some 23), .bslice true 3 1 [(.i .i64 0)] 1 [(0, (.t 22))], none⟩,
 ⟨(some 24), .move (.t 7), none⟩,
 ⟨(some 25), .appF 3 1 8 (.t 23) (.t 24), none⟩,
 ⟨(some 26), .call false (.f 171) [(.t 25)], none⟩,
 ⟨(some 7), .move (.t 26), none⟩] [0, 1, 6, 7, 8])
 (.block 2 (.loop l127_0))))
 (.reg [⟨(some 17), .move (.t 8), none⟩,
 ⟨(some 18), .bin .sub (.t 17) (.c (.i .i64 1)), none⟩,
 ⟨(some 8), .move (.t 18), none⟩] [0, 1, 6, 7, 8]))
def b127 : C :=
  .seq
 (.reg [⟨(some 4), .move (.c (.ls [])), none⟩,
 ⟨(some 5), .move (.c (.ls [])), none⟩] [0, 1])
 (.seq
 (.reg [⟨(some 9), .move (.t 0), none⟩,
 ⟨(some 10), .len false (.t 9), none⟩,
 ⟨(some 11), .mkSl 3 1 8 [(.i .i64 0)] (.t 10) (.t 10), none⟩,
 ⟨(some 6), .move (.t 11), none⟩] [0, 1, 6])
 (.seq
 (.reg [⟨(some 7), .move (.c (.ls [])), none⟩] [0, 1, 6, 7])
 (.seq
 (.seq
 (.reg [⟨(some 12), .move (.t 0), none⟩,
 ⟨(some 13), .len false (.t 12), none⟩,
 ⟨(some 14), .bin .sub (.t 13) (.c (.i .i64 1)), none⟩,
 ⟨(some 8), .move (.t 14), none⟩] [0, 1, 6, 7, 8])
 (.block 0 (.loop l127_1)))
 (.seq
 (.reg [⟨(some 40), .frzM (.t 6), none⟩,
 ⟨(some 41), .call false (.f 171) [(.t 40)], none⟩,
 ⟨(some 42), .move (.t 7), none⟩,
 ⟨(some 4), .move (.t 41), none⟩,
 ⟨(some 5), .move (.t 42), none⟩] [4, 5])
 (.ret)))))
def c127 : SF := ⟨43, [.t 4, .t 5], b127, none⟩

/-- workpiece/workpieceref03.checked -/
def h128 : Hints := ⟨[(0, [0, 1]), (1, [6, 7]), (2, [6, 15]), (3, [4, 5]), (4, [4, 5])], []⟩
def b128 : C :=
  .seq
 (.reg [⟨(some 4), .move (.c (.s [])), none⟩,
 ⟨(some 5), .move (.c (.i .i64 0)), none⟩] [0, 1])
 (.seq
 (.reg [⟨(some 9), .move (.t 0), none⟩,
 ⟨(some 10), .move (.t 1), none⟩,
 ⟨(some 11), .call false (.f 145) [(.t 9), (.t 10)], none⟩,
 ⟨(some 8), .move (.t 11), none⟩,
 ⟨(some 12), .ext (.t 8) 0, none⟩,
 ⟨(some 13), .ext (.t 8) 1, none⟩,
 ⟨(some 6), .move (.t 12), none⟩,
 ⟨(some 7), .move (.t 13), none⟩] [6, 7])
 (.seq
 (.seq
 (.reg [⟨(some 14), .move (.t 7), none⟩,
 ⟨(some 15), .un .not (.t 14), none⟩] [6, 15])
 (.cond (.t 15)
 (.seq
 (.reg [⟨(some 4), .move (.c (.s [])), none⟩,
 ⟨(some 5), .move (.c (.i .i64 30)), none⟩] [4, 5])
 (.ret))
 (.skip)))
 (.seq
 (.reg [⟨(some 16), .move (.t 6), none⟩,
 ⟨(some 4), .move (.t 16), none⟩,
 ⟨(some 5), .move (.c (.i .i64 0)), none⟩] [4, 5])
 (.ret))))
def c128 : SF := ⟨17, [.t 4, .t 5], b128, none⟩

/-- (workpiece/enclosure.operation).of -/
def h130 : Hints := ⟨[(0, [0, 4, 5, 6]), (1, [6])], []⟩
def b130 : C :=
  .seq
 (.reg [⟨(some 4), .box 26 (.t 1), none⟩,
 ⟨(some 5), .box 26 (.t 2), none⟩,
 ⟨(some 6), .alloc 26 [(.s []), (.s [])], none⟩] [0, 4, 5, 6])
 (.seq
 (.reg [⟨(some 7), .move (.t 0), none⟩,
 ⟨(some 8), .load true 2 (.t 4), none⟩,
 ⟨(some 9), .load true 2 (.t 5), none⟩,
 ⟨(some 10), .call false (.t 7) [(.t 8), (.t 9)], none⟩,
 ⟨(some 11), .ext (.t 10) 0, none⟩,
 ⟨(some 12), .ext (.t 10) 1, none⟩,
 ⟨(some 13), .call false (.f 51) [(.t 11), (.t 12)], none⟩,
 ⟨none, .store 2 (.t 6) (.t 13), none⟩] [6])
 (.ret))
def c130 : SF := ⟨14, [.cell 6 true 2], b130, none⟩

/-- workpiece/enclosure.compute[workpiece/api.Ratio]$1 -/
def h140 : Hints := ⟨[(0, [0, 1, 2, 3]), (1, [0, 1, 15]), (2, [0, 1, 4]), (3, [])], []⟩
def d140 : DF := ⟨17, 6, [⟨(some 7), .asI [8, 10, 11, 14, 15, 16, 19, 168, 199, 202, 227] (.t 6), none⟩,
  ⟨(some 5), .move (.t 7), none⟩,
  ⟨(some 8), .ext (.t 5) 0, none⟩,
  ⟨(some 9), .ext (.t 5) 1, none⟩,
  ⟨(some 2), .move (.t 8), none⟩,
  ⟨(some 3), .move (.t 9), none⟩], [0, 1, 2, 3],
  .seq
 (.reg [⟨(some 10), .move (.t 3), none⟩,
 ⟨(some 11), .move (.t 10), none⟩,
 ⟨(some 12), .move (.t 2), some (11, true)⟩,
 ⟨(some 13), .load false 1 (.g 0), some (11, true)⟩,
 ⟨(some 14), .call false (.f 109) [(.t 12), (.t 13)], some (11, true)⟩,
 ⟨(some 15), .pick (.t 11) (.t 14) (.c (.b false)), none⟩] [0, 1, 15])
 (.cond (.t 15)
 (.seq
 (.reg [⟨(some 4), .alloc 26 [(.s []), (.s [])], none⟩] [0, 1, 4])
 (.reg [⟨(some 16), .load true 2 (.t 4), none⟩,
 ⟨none, .store 2 (.t 0) (.t 16), none⟩,
 ⟨none, .store 1 (.t 1) (.c (.i .i64 50)), none⟩] []))
 (.skip))⟩

/-- workpiece/enclosure.compute[workpiece/api.Ratio]$2 -/
def h141 : Hints := ⟨[(0, [1]), (1, [2])], []⟩
def b141 : C :=
  .seq
 (.reg [⟨(some 1), .box 29 (.t 0), none⟩,
 ⟨(some 2), .move (.c (.b false)), none⟩] [1])
 (.seq
 (.reg [⟨(some 3), .load true 4 (.t 1), none⟩,
 ⟨(some 4), .call false (.f 35) [(.t 3)], none⟩,
 ⟨(some 5), .un .not (.t 4), none⟩,
 ⟨(some 2), .move (.t 5), none⟩] [2])
 (.ret))
def c141 : SF := ⟨6, [.t 2], b141, none⟩

/-- workpiece/workpieceref03.plus -/
def h143 : Hints := ⟨[(0, [0, 1]), (1, [0, 1, 5]), (2, [0, 1, 5, 6]), (3, [0, 1, 5, 6, 7]), (4, [0, 1, 5, 6, 7, 22]), (6, [0, 1, 5, 7, 8]), (7, [0, 1, 5, 7, 8, 29]), (8, [0, 1, 5, 7, 8]), (9, [0, 1, 5, 7, 8, 39]), (10, [0, 1, 5, 7, 8]), (11, [0, 1, 5, 7, 8]), (12, [0, 1, 5, 6, 7]), (5, [0, 1, 5, 6, 7]), (13, [4])], [(1, 0)]⟩
def l143_0 : C :=
  .seq
 (.seq
 (.reg [⟨(some 9), .move (.t 7), none⟩,
 ⟨(some 10), .move (.t 0), none⟩,
 ⟨(some 11), .len false (.t 10), none⟩,
 ⟨(some 12), .bin .lss (.t 9) (.t 11), none⟩,
 ⟨(some 13), .move (.t 12), none⟩,
 ⟨(some 14), .move (.t 7), some (13, false)⟩,
 ⟨(some 15), .move (.t 1), some (13, false)⟩,
 ⟨(some 16), .len false (.t 15), some (13, false)⟩,
 ⟨(some 17), .bin .lss (.t 14) (.t 16), some (13, false)⟩,
 ⟨(some 18), .pick (.t 13) (.c (.b true)) (.t 17), none⟩,
 ⟨(some 19), .move (.t 18), none⟩,
 ⟨(some 20), .move (.t 6), some (19, false)⟩,
 ⟨(some 21), .bin .gtr (.t 20) (.c (.i .i64 0)), some (19, false)⟩,
 ⟨(some 22), .pick (.t 19) (.c (.b true)) (.t 21), none⟩] [0, 1, 5, 6, 7, 22])
 (.cond (.t 22)
 (.skip)
 (.exit 0)))
 (.seq
 (.block 1 (.seq
 (.reg [⟨(some 25), .move (.t 6), none⟩,
 ⟨(some 8), .move (.t 25), none⟩] [0, 1, 5, 7, 8])
 (.seq
 (.seq
 (.reg [⟨(some 26), .move (.t 7), none⟩,
 ⟨(some 27), .move (.t 0), none⟩,
 ⟨(some 28), .len false (.t 27), none⟩,
 ⟨(some 29), .bin .lss (.t 26) (.t 28), none⟩] [0, 1, 5, 7, 8, 29])
 (.cond (.t 29)
 (.reg [⟨(some 30), .move (.t 8), none⟩,
 ⟨(some 31), .move (.t 0), none⟩,
 ⟨(some 32), .move (.t 7), none⟩,
 ⟨(some 33), .ixS 1 (.t 31) (.t 32), none⟩,
 ⟨(some 34), .load false 1 (.t 33), none⟩,
 ⟨(some 35), .bin .add (.t 30) (.t 34), none⟩,
 ⟨(some 8), .move (.t 35), none⟩] [0, 1, 5, 7, 8])
 (.skip)))
 (.seq
 (.seq
 (.reg [⟨(some 36), .move (.t 7), none⟩,
 ⟨(some 37), .move (.t 1), none⟩,
 ⟨(some 38), .len false (.t 37), none⟩,
 ⟨(some 39), .bin .lss (.t 36) (.t 38), none⟩] [0, 1, 5, 7, 8, 39])
 (.cond (.t 39)
 (.reg [⟨(some 40), .move (.t 8), none⟩,
 ⟨(some 41), .move (.t 1), none⟩,
 ⟨(some 42), .move (.t 7), none⟩,
 ⟨(some 43), .ixS 1 (.t 41) (.t 42), none⟩,
 ⟨(some 44), .load false 1 (.t 43), none⟩,
 ⟨(some 45), .bin .add (.t 40) (.t 44), none⟩,
 ⟨(some 8), .move (.t 45), none⟩] [0, 1, 5, 7, 8])
 (.skip)))
 (.seq
 (.reg [⟨(some 46), .move (.t 5), none⟩,
 ⟨(some 47), .move (.t 8), none⟩,
 ⟨(some 48), .bin .rem (.t 47) (.c (.i .i64 10)), none⟩,
 ⟨(some 49), .bslice false 3 1 [(.i .i64 0)] 1 [(0, (.t 48))], none⟩,
 ⟨(some 50), .app 3 1 8 (.t 46) (.t 49), none⟩,
 ⟨(some 5), .move (.t 50), none⟩] [0, 1, 5, 7, 8])
 (.reg [⟨(some 51), .move (.t 8), none⟩,
 ⟨(some 52), .bin .quo (.t 51) (.c (.i .i64 10)), none⟩,
 ⟨(some 6), .move (.t 52), none⟩] [0, 1, 5, 6, 7]))))))
 (.reg [⟨(some 23), .move (.t 7), none⟩,
 ⟨(some 24), .bin .add (.t 23) (.c (.i .i64 1)), none⟩,
 ⟨(some 7), .move (.t 24), none⟩] [0, 1, 5, 6, 7]))
def b143 : C :=
  .seq
 (.reg [⟨(some 4), .move (.c (.ls [])), none⟩] [0, 1])
 (.seq
 (.reg [⟨(some 5), .newGr 3 1, none⟩] [0, 1, 5])
 (.seq
 (.reg [⟨(some 6), .move (.c (.i .i64 0)), none⟩] [0, 1, 5, 6])
 (.seq
 (.seq
 (.reg [⟨(some 7), .move (.c (.i .i64 0)), none⟩] [0, 1, 5, 6, 7])
 (.block 0 (.loop l143_0)))
 (.seq
 (.reg [⟨(some 53), .move (.t 5), none⟩,
 ⟨(some 4), .move (.t 53), none⟩] [4])
 (.ret)))))
def c143 : SF := ⟨54, [.t 4], b143, none⟩

/-- workpiece/workpieceref03.minus -/
def h144 : Hints := ⟨[(0, [0, 1]), (1, [0, 1, 5]), (2, [0, 1, 5, 6]), (3, [0, 1, 5, 6, 7]), (4, [0, 1, 5, 6, 7, 12]), (6, [0, 1, 5, 7, 8]), (7, [0, 1, 5, 7, 8, 24]), (8, [0, 1, 5, 7, 8]), (9, [0, 1, 5, 6, 7, 8]), (10, [0, 1, 5, 6, 7, 8, 32]), (11, [0, 1, 5, 7, 8]), (12, [0, 1, 5, 6, 7, 8]), (13, [0, 1, 5, 6, 7]), (5, [0, 1, 5, 6, 7]), (14, [4])], [(1, 0), (14, 0)]⟩
def l144_0 : C :=
  .seq
 (.seq
 (.reg [⟨(some 9), .move (.t 7), none⟩,
 ⟨(some 10), .move (.t 0), none⟩,
 ⟨(some 11), .len false (.t 10), none⟩,
 ⟨(some 12), .bin .lss (.t 9) (.t 11), none⟩] [0, 1, 5, 6, 7, 12])
 (.cond (.t 12)
 (.skip)
 (.exit 0)))
 (.seq
 (.block 1 (.seq
 (.reg [⟨(some 15), .move (.t 0), none⟩,
 ⟨(some 16), .move (.t 7), none⟩,
 ⟨(some 17), .ixS 1 (.t 15) (.t 16), none⟩,
 ⟨(some 18), .load false 1 (.t 17), none⟩,
 ⟨(some 19), .move (.t 6), none⟩,
 ⟨(some 20), .bin .sub (.t 18) (.t 19), none⟩,
 ⟨(some 8), .move (.t 20), none⟩] [0, 1, 5, 7, 8])
 (.seq
 (.seq
 (.reg [⟨(some 21), .move (.t 7), none⟩,
 ⟨(some 22), .move (.t 1), none⟩,
 ⟨(some 23), .len false (.t 22), none⟩,
 ⟨(some 24), .bin .lss (.t 21) (.t 23), none⟩] [0, 1, 5, 7, 8, 24])
 (.cond (.t 24)
 (.reg [⟨(some 25), .move (.t 8), none⟩,
 ⟨(some 26), .move (.t 1), none⟩,
 ⟨(some 27), .move (.t 7), none⟩,
 ⟨(some 28), .ixS 1 (.t 26) (.t 27), none⟩,
 ⟨(some 29), .load false 1 (.t 28), none⟩,
 ⟨(some 30), .bin .sub (.t 25) (.t 29), none⟩,
 ⟨(some 8), .move (.t 30), none⟩] [0, 1, 5, 7, 8])
 (.skip)))
 (.seq
 (.reg [⟨(some 6), .move (.c (.i .i64 0)), none⟩] [0, 1, 5, 6, 7, 8])
 (.seq
 (.seq
 (.reg [⟨(some 31), .move (.t 8), none⟩,
 ⟨(some 32), .bin .lss (.t 31) (.c (.i .i64 0)), none⟩] [0, 1, 5, 6, 7, 8, 32])
 (.cond (.t 32)
 (.seq
 (.reg [⟨(some 33), .move (.t 8), none⟩,
 ⟨(some 34), .bin .add (.t 33) (.c (.i .i64 10)), none⟩,
 ⟨(some 8), .move (.t 34), none⟩] [0, 1, 5, 7, 8])
 (.reg [⟨(some 6), .move (.c (.i .i64 1)), none⟩] [0, 1, 5, 6, 7, 8]))
 (.skip)))
 (.reg [⟨(some 35), .move (.t 5), none⟩,
 ⟨(some 36), .move (.t 8), none⟩,
 ⟨(some 37), .bslice false 3 1 [(.i .i64 0)] 1 [(0, (.t 36))], none⟩,
 ⟨(some 38), .app 3 1 8 (.t 35) (.t 37), none⟩,
 ⟨(some 5), .move (.t 38), none⟩] [0, 1, 5, 6, 7]))))))
 (.reg [⟨(some 13), .move (.t 7), none⟩,
 ⟨(some 14), .bin .add (.t 13) (.c (.i .i64 1)), none⟩,
 ⟨(some 7), .move (.t 14), none⟩] [0, 1, 5, 6, 7]))
def b144 : C :=
  .seq
 (.reg [⟨(some 4), .move (.c (.ls [])), none⟩] [0, 1])
 (.seq
 (.reg [⟨(some 5), .newGr 3 1, none⟩] [0, 1, 5])
 (.seq
 (.reg [⟨(some 6), .move (.c (.i .i64 0)), none⟩] [0, 1, 5, 6])
 (.seq
 (.seq
 (.reg [⟨(some 7), .move (.c (.i .i64 0)), none⟩] [0, 1, 5, 6, 7])
 (.block 0 (.loop l144_0)))
 (.seq
 (.reg [⟨(some 39), .frzM (.t 5), none⟩,
 ⟨(some 40), .call false (.f 171) [(.t 39)], none⟩,
 ⟨(some 4), .move (.t 40), none⟩] [4])
 (.ret)))))
def c144 : SF := ⟨41, [.t 4], b144, none⟩

/-- workpiece/workpieceref03.text -/
def h145 : Hints := ⟨[(0, [0, 1]), (1, [0, 1, 10]), (2, [4, 5]), (3, [0, 1, 6]), (4, [1, 6, 11]), (5, [1, 6]), (6, [1, 6, 7]), (7, [1, 6, 7, 19]), (9, [1, 6, 7]), (8, [1, 6, 7]), (10, [4, 5])], [(3, 0)]⟩
def l145_0 : C :=
  .seq
 (.seq
 (.reg [⟨(some 18), .move (.t 7), none⟩,
 ⟨(some 19), .bin .geq (.t 18) (.c (.i .i64 0)), none⟩] [1, 6, 7, 19])
 (.cond (.t 19)
 (.skip)
 (.exit 0)))
 (.seq
 (.block 1 (.reg [⟨(some 22), .move (.t 6), none⟩,
 ⟨(some 23), .move (.t 1), none⟩,
 ⟨(some 24), .move (.t 7), none⟩,
 ⟨(some 25), .ixS 1 (.t 23) (.t 24), none⟩,
 ⟨(some 26), .load false 1 (.t 25), none⟩,
 ⟨(some 27), .bin .add (.c (.i .i64 48)) (.t 26), none⟩,
 ⟨(some 28), .conv .u8 (.t 27), none⟩,
 ⟨(some 29), .bslice false 5 1 [(.i .u8 0)] 1 [(0, (.t 28))], none⟩,
 ⟨(some 30), .app 5 1 1 (.t 22) (.t 29), none⟩,
 ⟨(some 6), .move (.t 30), none⟩] [1, 6, 7]))
 (.reg [⟨(some 20), .move (.t 7), none⟩,
 ⟨(some 21), .bin .sub (.t 20) (.c (.i .i64 1)), none⟩,
 ⟨(some 7), .move (.t 21), none⟩] [1, 6, 7]))
def b145 : C :=
  .seq
 (.reg [⟨(some 4), .move (.c (.s [])), none⟩,
 ⟨(some 5), .move (.c (.b false)), none⟩] [0, 1])
 (.seq
 (.seq
 (.reg [⟨(some 8), .move (.t 1), none⟩,
 ⟨(some 9), .len false (.t 8), none⟩,
 ⟨(some 10), .bin .eql (.t 9) (.c (.i .i64 0)), none⟩] [0, 1, 10])
 (.cond (.t 10)
 (.seq
 (.reg [⟨(some 4), .move (.c (.s [48])), none⟩,
 ⟨(some 5), .move (.c (.b true)), none⟩] [4, 5])
 (.ret))
 (.skip)))
 (.seq
 (.reg [⟨(some 6), .newGr 5 1, none⟩] [0, 1, 6])
 (.seq
 (.seq
 (.reg [⟨(some 11), .move (.t 0), none⟩] [1, 6, 11])
 (.cond (.t 11)
 (.reg [⟨(some 12), .move (.t 6), none⟩,
 ⟨(some 13), .bslice false 5 1 [(.i .u8 0)] 1 [(0, (.c (.i .u8 45)))], none⟩,
 ⟨(some 14), .app 5 1 1 (.t 12) (.t 13), none⟩,
 ⟨(some 6), .move (.t 14), none⟩] [1, 6])
 (.skip)))
 (.seq
 (.seq
 (.reg [⟨(some 15), .move (.t 1), none⟩,
 ⟨(some 16), .len false (.t 15), none⟩,
 ⟨(some 17), .bin .sub (.t 16) (.c (.i .i64 1)), none⟩,
 ⟨(some 7), .move (.t 17), none⟩] [1, 6, 7])
 (.block 0 (.loop l145_0)))
 (.seq
 (.reg [⟨(some 31), .move (.t 6), none⟩,
 ⟨(some 32), .convBS (.t 31), none⟩,
 ⟨(some 33), .move (.t 1), none⟩,
 ⟨(some 34), .len false (.t 33), none⟩,
 ⟨(some 35), .bin .leq (.t 34) (.c (.i .i64 200)), none⟩,
 ⟨(some 4), .move (.t 32), none⟩,
 ⟨(some 5), .move (.t 35), none⟩] [4, 5])
 (.ret))))))
def c145 : SF := ⟨36, [.t 4, .t 5], b145, none⟩

/-- workpiece/integer.isValid -/
def h146 : Hints := ⟨[(0, [0]), (1, [0, 3]), (2, [0, 3, 17]), (3, [2]), (4, [2])], []⟩
def b146 : C :=
  .seq
 (.reg [⟨(some 2), .move (.c (.b false)), none⟩] [0])
 (.seq
 (.reg [⟨(some 4), .move (.t 0), none⟩,
 ⟨(some 5), .call false (.f 175) [(.t 4), (.c (.s [45]))], none⟩,
 ⟨(some 3), .move (.t 5), none⟩] [0, 3])
 (.seq
 (.seq
 (.reg [⟨(some 6), .move (.t 3), none⟩,
 ⟨(some 7), .bin .eql (.t 6) (.c (.s [])), none⟩,
 ⟨(some 8), .move (.t 7), none⟩,
 ⟨(some 9), .move (.t 3), some (8, false)⟩,
 ⟨(some 10), .len true (.t 9), some (8, false)⟩,
 ⟨(some 11), .bin .gtr (.t 10) (.c (.i .i64 200)), some (8, false)⟩,
 ⟨(some 12), .pick (.t 8) (.c (.b true)) (.t 11), none⟩,
 ⟨(some 13), .move (.t 12), none⟩,
 ⟨(some 14), .move (.t 3), some (13, false)⟩,
 ⟨(some 15), .call false (.f 176) [(.t 14), (.c (.s [48, 49, 50, 51, 52, 53, 54, 55, 56, 57]))], some (13, false)⟩,
 ⟨(some 16), .bin .neq (.t 15) (.c (.s [])), some (13, false)⟩,
 ⟨(some 17), .pick (.t 13) (.c (.b true)) (.t 16), none⟩] [0, 3, 17])
 (.cond (.t 17)
 (.seq
 (.reg [⟨(some 2), .move (.c (.b false)), none⟩] [2])
 (.ret))
 (.skip)))
 (.seq
 (.reg [⟨(some 18), .move (.t 0), none⟩,
 ⟨(some 19), .bin .eql (.t 18) (.c (.s [48])), none⟩,
 ⟨(some 20), .move (.t 19), none⟩,
 ⟨(some 21), .move (.t 3), some (20, false)⟩,
 ⟨(some 22), .ixStr (.t 21) (.c (.i .i64 0)), some (20, false)⟩,
 ⟨(some 23), .bin .neq (.t 22) (.c (.i .u8 48)), some (20, false)⟩,
 ⟨(some 24), .pick (.t 20) (.c (.b true)) (.t 23), none⟩,
 ⟨(some 2), .move (.t 24), none⟩] [2])
 (.ret))))
def c146 : SF := ⟨25, [.t 2], b146, none⟩

/-- workpiece/integer.parse -/
def h147 : Hints := ⟨[(0, [0, 2]), (1, [0, 2, 3]), (2, [2, 3, 4]), (3, [2, 3, 4, 18]), (4, [2, 3, 4, 5]), (5, [2, 3, 4, 5, 6]), (6, [2, 3, 4, 5]), (7, [2, 3, 4]), (8, [2, 4]), (9, [2])], [(2, 5), (8, 1)]⟩
def l147_0 : C :=
  .seq
 (.seq
 (.reg [⟨(some 16), .move (.t 3), none⟩,
 ⟨(some 17), .len true (.t 16), none⟩,
 ⟨(some 18), .bin .gtr (.t 17) (.c (.i .i64 0)), none⟩] [2, 3, 4, 18])
 (.cond (.t 18)
 (.skip)
 (.exit 0)))
 (.block 1 (.seq
 (.reg [⟨(some 19), .move (.t 3), none⟩,
 ⟨(some 20), .len true (.t 19), none⟩,
 ⟨(some 21), .bin .sub (.t 20) (.c (.i .i64 4)), none⟩,
 ⟨(some 22), .mm true [(.c (.i .i64 0)), (.t 21)], none⟩,
 ⟨(some 5), .move (.t 22), none⟩] [2, 3, 4, 5])
 (.seq
 (.reg [⟨(some 24), .move (.t 3), none⟩,
 ⟨(some 25), .move (.t 5), none⟩,
 ⟨(some 26), .slS (.t 24) (some (.t 25)) none, none⟩,
 ⟨(some 27), .call false (.f 177) [(.t 26)], none⟩,
 ⟨(some 23), .move (.t 27), none⟩,
 ⟨(some 28), .ext (.t 23) 0, none⟩,
 ⟨(some 29), .ext (.t 23) 1, none⟩,
 ⟨(some 6), .move (.t 28), none⟩,
 ⟨(some 7), .move (.t 29), none⟩] [2, 3, 4, 5, 6])
 (.seq
 (.reg [⟨(some 30), .fieldAddr 1 (.t 4), none⟩,
 ⟨(some 31), .load false 1 (.t 30), none⟩,
 ⟨(some 32), .move (.t 6), none⟩,
 ⟨(some 33), .bslice false 3 1 [(.i .i64 0)] 1 [(0, (.t 32))], none⟩,
 ⟨(some 34), .app 3 1 8 (.t 31) (.t 33), none⟩,
 ⟨(some 35), .fieldAddr 1 (.t 4), none⟩,
 ⟨none, .store 1 (.t 35) (.t 34), none⟩] [2, 3, 4, 5])
 (.reg [⟨(some 36), .move (.t 3), none⟩,
 ⟨(some 37), .move (.t 5), none⟩,
 ⟨(some 38), .slS (.t 36) none (some (.t 37)), none⟩,
 ⟨(some 3), .move (.t 38), none⟩] [2, 3, 4])))))
def b147 : C :=
  .seq
 (.reg [⟨(some 2), .alloc 103 [(.b false), (.ls [])], none⟩] [0, 2])
 (.seq
 (.reg [⟨(some 8), .move (.t 0), none⟩,
 ⟨(some 9), .call false (.f 175) [(.t 8), (.c (.s [45]))], none⟩,
 ⟨(some 3), .move (.t 9), none⟩] [0, 2, 3])
 (.seq
 (.reg [⟨(some 10), .move (.t 3), none⟩,
 ⟨(some 11), .len true (.t 10), none⟩,
 ⟨(some 12), .move (.t 0), none⟩,
 ⟨(some 13), .len true (.t 12), none⟩,
 ⟨(some 14), .bin .lss (.t 11) (.t 13), none⟩,
 ⟨(some 15), .buildG 3 1 1 [(.b false), (.ls [])] [(0, 1, (.t 14))], none⟩,
 ⟨(some 4), .alloc 103 [(.b false), (.ls [])], none⟩,
 ⟨none, .store 2 (.t 4) (.t 15), none⟩] [2, 3, 4])
 (.seq
 (.block 0 (.loop l147_0))
 (.seq
 (.reg [⟨(some 39), .fieldAddr 1 (.t 4), none⟩,
 ⟨(some 40), .frzL false 1 (.t 39), none⟩,
 ⟨(some 41), .call false (.f 149) [(.t 40)], none⟩,
 ⟨(some 42), .fieldAddr 1 (.t 4), none⟩,
 ⟨none, .store 1 (.t 42) (.t 41), none⟩] [2, 4])
 (.seq
 (.reg [⟨(some 43), .load true 2 (.t 4), none⟩,
 ⟨none, .store 2 (.t 2) (.t 43), none⟩] [2])
 (.ret))))))
def c147 : SF := ⟨44, [.cell 2 true 2], b147, none⟩

/-- slices.Backward[workpiece/integer.number,int] -/
def h148 : Hints := ⟨[(0, [1]), (1, [2])], []⟩
def b148 : C :=
  .seq
 (.reg [⟨(some 1), .box 101 (.t 0), none⟩,
 ⟨(some 2), .move (.c .nilf), none⟩] [1])
 (.seq
 (.reg [⟨(some 3), .mkF 178 [] [(.t 1)], none⟩,
 ⟨(some 2), .move (.t 3), none⟩] [2])
 (.ret))
def c148 : SF := ⟨4, [.t 2], b148, none⟩

/-- (workpiece/integer.number).trimmed -/
def h149 : Hints := ⟨[(0, [0]), (1, [0, 14]), (2, [0]), (3, [2])], []⟩
def l149_0 : C :=
  .seq
 (.seq
 (.reg [⟨(some 3), .move (.t 0), none⟩,
 ⟨(some 4), .len false (.t 3), none⟩,
 ⟨(some 5), .bin .gtr (.t 4) (.c (.i .i64 0)), none⟩,
 ⟨(some 6), .move (.t 5), none⟩,
 ⟨(some 7), .move (.t 0), some (6, true)⟩,
 ⟨(some 8), .move (.t 0), some (6, true)⟩,
 ⟨(some 9), .len false (.t 8), some (6, true)⟩,
 ⟨(some 10), .bin .sub (.t 9) (.c (.i .i64 1)), some (6, true)⟩,
 ⟨(some 11), .ixS 1 (.t 7) (.t 10), some (6, true)⟩,
 ⟨(some 12), .load false 1 (.t 11), some (6, true)⟩,
 ⟨(some 13), .bin .eql (.t 12) (.c (.i .i64 0)), some (6, true)⟩,
 ⟨(some 14), .pick (.t 6) (.t 13) (.c (.b false)), none⟩] [0, 14])
 (.cond (.t 14)
 (.skip)
 (.exit 0)))
 (.block 1 (.reg [⟨(some 15), .move (.t 0), none⟩,
 ⟨(some 16), .move (.t 0), none⟩,
 ⟨(some 17), .len false (.t 16), none⟩,
 ⟨(some 18), .bin .sub (.t 17) (.c (.i .i64 1)), none⟩,
 ⟨(some 19), .slL 1 (.t 15) none (some (.t 18)), none⟩,
 ⟨(some 0), .move (.t 19), none⟩] [0]))
def b149 : C :=
  .seq
 (.reg [⟨(some 2), .move (.c (.ls [])), none⟩] [0])
 (.seq
 (.block 0 (.loop l149_0))
 (.seq
 (.reg [⟨(some 20), .move (.t 0), none⟩,
 ⟨(some 2), .move (.t 20), none⟩] [2])
 (.ret)))
def c149 : SF := ⟨21, [.t 2], b149, none⟩

/-- (workpiece/integer.number).by -/
def h150 : Hints := ⟨[(0, [2, 3]), (1, [4])], []⟩
def b150 : C :=
  .seq
 (.reg [⟨(some 2), .box 101 (.t 0), none⟩,
 ⟨(some 3), .box 3 (.t 1), none⟩,
 ⟨(some 4), .move (.c (.ls [])), none⟩] [2, 3])
 (.seq
 (.reg [⟨(some 5), .load false 1 (.t 2), none⟩,
 ⟨(some 6), .len false (.t 5), none⟩,
 ⟨(some 7), .mkF 179 [] [(.t 2), (.t 3)], none⟩,
 ⟨(some 8), .call false (.f 153) [(.t 6), (.c (.i .i64 0)), (.t 7)], none⟩,
 ⟨(some 9), .call false (.f 149) [(.t 8)], none⟩,
 ⟨(some 4), .move (.t 9), none⟩] [4])
 (.ret))
def c150 : SF := ⟨10, [.t 4], b150, none⟩

/-- (workpiece/integer.number).over$1 -/
def h151 : Hints := ⟨[(0, [0, 1, 2]), (1, [4])], []⟩
def b151 : C :=
  .seq
 (.reg [⟨(some 4), .move (.c (.b false)), none⟩] [0, 1, 2])
 (.seq
 (.draw [⟨0, ⟨(some 5), .load false 1 (.t 1), none⟩, 0, []⟩,
 ⟨1, ⟨(some 6), .move (.t 0), none⟩, 0, []⟩,
 ⟨2, ⟨(some 7), .bin .add (.t 6) (.c (.i .i64 1)), none⟩, 0, []⟩,
 ⟨4, ⟨(some 9), .load false 1 (.t 2), none⟩, 0, []⟩,
 ⟨3, ⟨(some 8), .call false (.t 5) [(.t 7)], none⟩, 1, [4]⟩,
 ⟨5, ⟨(some 10), .call false (.f 107) [(.t 8), (.t 9)], none⟩, 1, []⟩,
 ⟨6, ⟨(some 11), .bin .gtr (.t 10) (.c (.i .i64 0)), none⟩, 0, []⟩,
 ⟨7, ⟨(some 4), .move (.t 11), none⟩, 0, []⟩] [4])
 (.ret))
def c151 : SF := ⟨12, [.t 4], b151, none⟩

/-- sort.Search -/
def h152 : Hints := ⟨[(0, [0, 1]), (1, [1, 5, 6]), (2, [1, 5, 6, 11]), (3, [1, 5, 6, 7]), (4, [1, 5, 6, 7, 21]), (6, [1, 5, 6]), (5, [1, 5, 6]), (7, [4])], []⟩
def l152_0 : C :=
  .seq
 (.seq
 (.reg [⟨(some 9), .move (.t 5), none⟩,
 ⟨(some 10), .move (.t 6), none⟩,
 ⟨(some 11), .bin .lss (.t 9) (.t 10), none⟩] [1, 5, 6, 11])
 (.cond (.t 11)
 (.skip)
 (.exit 0)))
 (.block 1 (.seq
 (.reg [⟨(some 12), .move (.t 5), none⟩,
 ⟨(some 13), .move (.t 6), none⟩,
 ⟨(some 14), .bin .add (.t 12) (.t 13), none⟩,
 ⟨(some 15), .conv .u64 (.t 14), none⟩,
 ⟨(some 16), .bin .shr (.t 15) (.c (.i .u64 1)), none⟩,
 ⟨(some 17), .conv .i64 (.t 16), none⟩,
 ⟨(some 7), .move (.t 17), none⟩] [1, 5, 6, 7])
 (.seq
 (.reg [⟨(some 18), .move (.t 1), none⟩,
 ⟨(some 19), .move (.t 7), none⟩,
 ⟨(some 20), .call false (.t 18) [(.t 19)], none⟩,
 ⟨(some 21), .un .not (.t 20), none⟩] [1, 5, 6, 7, 21])
 (.cond (.t 21)
 (.reg [⟨(some 22), .move (.t 7), none⟩,
 ⟨(some 23), .bin .add (.t 22) (.c (.i .i64 1)), none⟩,
 ⟨(some 5), .move (.t 23), none⟩] [1, 5, 6])
 (.reg [⟨(some 24), .move (.t 7), none⟩,
 ⟨(some 6), .move (.t 24), none⟩] [1, 5, 6])))))
def b152 : C :=
  .seq
 (.reg [⟨(some 4), .move (.c (.i .i64 0)), none⟩] [0, 1])
 (.seq
 (.reg [⟨(some 8), .move (.t 0), none⟩,
 ⟨(some 5), .move (.c (.i .i64 0)), none⟩,
 ⟨(some 6), .move (.t 8), none⟩] [1, 5, 6])
 (.seq
 (.block 0 (.loop l152_0))
 (.seq
 (.reg [⟨(some 25), .move (.t 5), none⟩,
 ⟨(some 4), .move (.t 25), none⟩] [4])
 (.ret))))
def c152 : SF := ⟨26, [.t 4], b152, none⟩

/-- workpiece/integer.fold[workpiece/integer.number] -/
def h153 : Hints := ⟨[(0, [0, 1, 2]), (1, [0, 1, 2, 7]), (2, [0, 1, 2, 7, 8]), (3, [0, 1, 2, 7, 8, 19]), (5, [0, 2, 7, 8, 9]), (6, [0, 1, 2, 7, 8, 9]), (7, [0, 1, 2, 7, 8, 9, 28]), (10, [0, 1, 2, 7, 8, 9, 32]), (11, [0, 1, 2, 7, 8, 9]), (12, [0, 1, 2, 7, 8, 9]), (8, [0, 2, 7, 8, 9]), (9, [0, 1, 2, 7, 8, 9]), (13, [0, 1, 2, 7, 8]), (4, [0, 1, 2, 7, 8]), (14, [6])], []⟩
def l153_0 : C :=
  .seq
 (.seq
 (.reg [⟨(some 13), .move (.t 8), none⟩,
 ⟨(some 14), .move (.t 0), none⟩,
 ⟨(some 15), .bin .lss (.t 13) (.t 14), none⟩,
 ⟨(some 16), .move (.t 15), none⟩,
 ⟨(some 17), .move (.t 1), some (16, false)⟩,
 ⟨(some 18), .bin .neq (.t 17) (.c (.i .i64 0)), some (16, false)⟩,
 ⟨(some 19), .pick (.t 16) (.c (.b true)) (.t 18), none⟩] [0, 1, 2, 7, 8, 19])
 (.cond (.t 19)
 (.skip)
 (.exit 0)))
 (.seq
 (.block 1 (.seq
 (.reg [⟨(some 22), .move (.t 2), none⟩,
 ⟨(some 23), .move (.t 8), none⟩,
 ⟨(some 24), .call false (.t 22) [(.t 23)], none⟩,
 ⟨(some 25), .move (.t 1), none⟩,
 ⟨(some 26), .bin .add (.t 24) (.t 25), none⟩,
 ⟨(some 9), .move (.t 26), none⟩] [0, 2, 7, 8, 9])
 (.seq
 (.reg [⟨(some 1), .move (.c (.i .i64 0)), none⟩] [0, 1, 2, 7, 8, 9])
 (.seq
 (.seq
 (.reg [⟨(some 27), .move (.t 9), none⟩,
 ⟨(some 28), .bin .lss (.t 27) (.c (.i .i64 0)), none⟩] [0, 1, 2, 7, 8, 9, 28])
 (.cond (.t 28)
 (.seq
 (.reg [⟨(some 29), .move (.t 9), none⟩,
 ⟨(some 30), .bin .add (.t 29) (.c (.i .i64 10000)), none⟩,
 ⟨(some 9), .move (.t 30), none⟩] [0, 2, 7, 8, 9])
 (.reg [⟨(some 1), .move (.c (.i .i64 (-1))), none⟩] [0, 1, 2, 7, 8, 9]))
 (.seq
 (.reg [⟨(some 31), .move (.t 9), none⟩,
 ⟨(some 32), .bin .geq (.t 31) (.c (.i .i64 10000)), none⟩] [0, 1, 2, 7, 8, 9, 32])
 (.cond (.t 32)
 (.seq
 (.reg [⟨(some 33), .move (.t 9), none⟩,
 ⟨(some 34), .bin .quo (.t 33) (.c (.i .i64 10000)), none⟩,
 ⟨(some 1), .move (.t 34), none⟩] [0, 1, 2, 7, 8, 9])
 (.reg [⟨(some 35), .move (.t 9), none⟩,
 ⟨(some 36), .bin .rem (.t 35) (.c (.i .i64 10000)), none⟩,
 ⟨(some 9), .move (.t 36), none⟩] [0, 1, 2, 7, 8, 9]))
 (.skip)))))
 (.reg [⟨(some 37), .move (.t 7), none⟩,
 ⟨(some 38), .move (.t 9), none⟩,
 ⟨(some 39), .bslice false 3 1 [(.i .i64 0)] 1 [(0, (.t 38))], none⟩,
 ⟨(some 40), .app 3 1 8 (.t 37) (.t 39), none⟩,
 ⟨(some 7), .move (.t 40), none⟩] [0, 1, 2, 7, 8])))))
 (.reg [⟨(some 20), .move (.t 8), none⟩,
 ⟨(some 21), .bin .add (.t 20) (.c (.i .i64 1)), none⟩,
 ⟨(some 8), .move (.t 21), none⟩] [0, 1, 2, 7, 8]))
def b153 : C :=
  .seq
 (.reg [⟨(some 6), .move (.c (.ls [])), none⟩] [0, 1, 2])
 (.seq
 (.reg [⟨(some 10), .move (.t 0), none⟩,
 ⟨(some 11), .bin .add (.t 10) (.c (.i .i64 1)), none⟩,
 ⟨(some 12), .mkSl 3 1 8 [(.i .i64 0)] (.c (.i .i64 0)) (.t 11), none⟩,
 ⟨(some 7), .move (.t 12), none⟩] [0, 1, 2, 7])
 (.seq
 (.seq
 (.reg [⟨(some 8), .move (.c (.i .i64 0)), none⟩] [0, 1, 2, 7, 8])
 (.block 0 (.loop l153_0)))
 (.seq
 (.reg [⟨(some 41), .move (.t 7), none⟩,
 ⟨(some 6), .move (.t 41), none⟩] [6])
 (.ret))))
def c153 : SF := ⟨42, [.t 6], b153, none⟩

/-- (workpiece/integer.number).plus$1 -/
def h154 : Hints := ⟨[(0, [0, 1, 2]), (1, [4])], []⟩
def b154 : C :=
  .seq
 (.reg [⟨(some 4), .move (.c (.i .i64 0)), none⟩] [0, 1, 2])
 (.seq
 (.draw [⟨0, ⟨(some 5), .load false 1 (.t 1), none⟩, 0, []⟩,
 ⟨1, ⟨(some 6), .move (.t 0), none⟩, 0, []⟩,
 ⟨3, ⟨(some 8), .load false 1 (.t 2), none⟩, 0, []⟩,
 ⟨4, ⟨(some 9), .move (.t 0), none⟩, 0, []⟩,
 ⟨2, ⟨(some 7), .call false (.f 155) [(.t 5), (.t 6)], none⟩, 1, [3]⟩,
 ⟨5, ⟨(some 10), .call false (.f 155) [(.t 8), (.t 9)], none⟩, 1, []⟩,
 ⟨6, ⟨(some 11), .bin .add (.t 7) (.t 10), none⟩, 0, []⟩,
 ⟨7, ⟨(some 4), .move (.t 11), none⟩, 0, []⟩] [4])
 (.ret))
def c154 : SF := ⟨12, [.t 4], b154, none⟩

/-- (workpiece/integer.number).at -/
def h155 : Hints := ⟨[(0, [0, 1]), (1, [0, 1, 8]), (2, [4]), (3, [4])], []⟩
def b155 : C :=
  .seq
 (.reg [⟨(some 4), .move (.c (.i .i64 0)), none⟩] [0, 1])
 (.seq
 (.seq
 (.reg [⟨(some 5), .move (.t 1), none⟩,
 ⟨(some 6), .move (.t 0), none⟩,
 ⟨(some 7), .len false (.t 6), none⟩,
 ⟨(some 8), .bin .lss (.t 5) (.t 7), none⟩] [0, 1, 8])
 (.cond (.t 8)
 (.seq
 (.reg [⟨(some 9), .move (.t 0), none⟩,
 ⟨(some 10), .move (.t 1), none⟩,
 ⟨(some 11), .ixS 1 (.t 9) (.t 10), none⟩,
 ⟨(some 12), .load false 1 (.t 11), none⟩,
 ⟨(some 4), .move (.t 12), none⟩] [4])
 (.ret))
 (.skip)))
 (.seq
 (.reg [⟨(some 4), .move (.c (.i .i64 0)), none⟩] [4])
 (.ret)))
def c155 : SF := ⟨13, [.t 4], b155, none⟩

/-- (workpiece/integer.number).minus$1 -/
def h156 : Hints := ⟨[(0, [0, 1, 2]), (1, [4])], []⟩
def b156 : C :=
  .seq
 (.reg [⟨(some 4), .move (.c (.i .i64 0)), none⟩] [0, 1, 2])
 (.seq
 (.draw [⟨0, ⟨(some 5), .load false 1 (.t 1), none⟩, 0, []⟩,
 ⟨1, ⟨(some 6), .move (.t 0), none⟩, 0, []⟩,
 ⟨3, ⟨(some 8), .load false 1 (.t 2), none⟩, 0, []⟩,
 ⟨4, ⟨(some 9), .move (.t 0), none⟩, 0, []⟩,
 ⟨2, ⟨(some 7), .call false (.f 155) [(.t 5), (.t 6)], none⟩, 1, [3]⟩,
 ⟨5, ⟨(some 10), .call false (.f 155) [(.t 8), (.t 9)], none⟩, 1, []⟩,
 ⟨6, ⟨(some 11), .bin .sub (.t 7) (.t 10), none⟩, 0, []⟩,
 ⟨7, ⟨(some 4), .move (.t 11), none⟩, 0, []⟩] [4])
 (.ret))
def c156 : SF := ⟨12, [.t 4], b156, none⟩

/-- (*strings.Builder).WriteString -/
def h158 : Hints := ⟨[(0, [0, 1]), (1, [0, 1]), (2, [1]), (3, [4, 5])], []⟩
def b158 : C :=
  .seq
 (.reg [⟨(some 4), .move (.c (.i .i64 0)), none⟩,
 ⟨(some 5), .move (.c .nili), none⟩] [0, 1])
 (.seq
 (.reg [⟨(some 6), .move (.t 0), none⟩,
 ⟨(some 7), .call false (.f 181) [(.t 6)], none⟩] [0, 1])
 (.seq
 (.reg [⟨(some 8), .move (.t 0), none⟩,
 ⟨(some 9), .move (.t 0), none⟩,
 ⟨(some 10), .nilCheck (.t 9), none⟩,
 ⟨(some 11), .fieldAddr 1 (.t 10), none⟩,
 ⟨(some 12), .load false 1 (.t 11), none⟩,
 ⟨(some 13), .move (.t 1), none⟩,
 ⟨(some 14), .app 5 1 1 (.t 12) (.t 13), none⟩,
 ⟨(some 15), .nilCheck (.t 8), none⟩,
 ⟨(some 16), .fieldAddr 1 (.t 15), none⟩,
 ⟨none, .store 1 (.t 16) (.t 14), none⟩] [1])
 (.seq
 (.reg [⟨(some 17), .move (.t 1), none⟩,
 ⟨(some 18), .len true (.t 17), none⟩,
 ⟨(some 4), .move (.t 18), none⟩,
 ⟨(some 5), .move (.c .nili), none⟩] [4, 5])
 (.ret))))
def c158 : SF := ⟨19, [.t 4, .t 5], b158, none⟩

/-- cmp.Compare[int] -/
def h160 : Hints := ⟨[(0, [0, 1]), (1, [0, 1, 5]), (2, [0, 1, 5, 6]), (3, [0, 1, 6, 11]), (4, [12]), (5, [4]), (6, [4]), (7, [0, 1, 13]), (8, [4]), (9, [0, 1, 16]), (10, [4]), (11, [19]), (12, [4]), (13, [4])], []⟩
def b160 : C :=
  .seq
 (.reg [⟨(some 4), .move (.c (.i .i64 0)), none⟩] [0, 1])
 (.seq
 (.reg [⟨(some 7), .move (.t 0), none⟩,
 ⟨(some 8), .call false (.f 182) [(.t 7)], none⟩,
 ⟨(some 5), .move (.t 8), none⟩] [0, 1, 5])
 (.seq
 (.reg [⟨(some 9), .move (.t 1), none⟩,
 ⟨(some 10), .call false (.f 182) [(.t 9)], none⟩,
 ⟨(some 6), .move (.t 10), none⟩] [0, 1, 5, 6])
 (.seq
 (.seq
 (.reg [⟨(some 11), .move (.t 5), none⟩] [0, 1, 6, 11])
 (.cond (.t 11)
 (.seq
 (.seq
 (.reg [⟨(some 12), .move (.t 6), none⟩] [12])
 (.cond (.t 12)
 (.seq
 (.reg [⟨(some 4), .move (.c (.i .i64 0)), none⟩] [4])
 (.ret))
 (.skip)))
 (.seq
 (.reg [⟨(some 4), .move (.c (.i .i64 (-1))), none⟩] [4])
 (.ret)))
 (.skip)))
 (.seq
 (.seq
 (.reg [⟨(some 13), .move (.t 6), none⟩] [0, 1, 13])
 (.cond (.t 13)
 (.seq
 (.reg [⟨(some 4), .move (.c (.i .i64 1)), none⟩] [4])
 (.ret))
 (.skip)))
 (.seq
 (.seq
 (.reg [⟨(some 14), .move (.t 0), none⟩,
 ⟨(some 15), .move (.t 1), none⟩,
 ⟨(some 16), .bin .lss (.t 14) (.t 15), none⟩] [0, 1, 16])
 (.cond (.t 16)
 (.seq
 (.reg [⟨(some 4), .move (.c (.i .i64 (-1))), none⟩] [4])
 (.ret))
 (.skip)))
 (.seq
 (.seq
 (.reg [⟨(some 17), .move (.t 0), none⟩,
 ⟨(some 18), .move (.t 1), none⟩,
 ⟨(some 19), .bin .gtr (.t 17) (.t 18), none⟩] [19])
 (.cond (.t 19)
 (.seq
 (.reg [⟨(some 4), .move (.c (.i .i64 1)), none⟩] [4])
 (.ret))
 (.skip)))
 (.seq
 (.reg [⟨(some 4), .move (.c (.i .i64 0)), none⟩] [4])
 (.ret))))))))
def c160 : SF := ⟨20, [.t 4], b160, none⟩

/-- slices.IndexFunc[[]workpiece/api.Interval,workpiece/api.Interval] -/
def h163 : Hints := ⟨[(0, [0, 1]), (1, [0, 1, 7, 8]), (2, [0, 1, 7, 8, 9]), (3, [0, 1, 5, 7, 8]), (4, [0, 1, 5, 7, 8, 16]), (5, [4]), (6, [0, 1, 7, 8]), (7, [4])], []⟩
def l163_0 : C :=
  .seq
 (.reg [⟨(some 9), .bin .lss (.t 8) (.t 7), none⟩] [0, 1, 7, 8, 9])
 (.seq
 (.cond (.t 9)
 (.skip)
 (.exit 0))
 (.seq
 (.block 1 (.seq
 (.reg [⟨(some 10), .move (.t 8), none⟩,
 ⟨(some 5), .move (.t 10), none⟩] [0, 1, 5, 7, 8])
 (.seq
 (.reg [⟨(some 11), .move (.t 1), none⟩,
 ⟨(some 12), .move (.t 0), none⟩,
 ⟨(some 13), .move (.t 5), none⟩,
 ⟨(some 14), .ixS 4 (.t 12) (.t 13), none⟩,
 ⟨(some 15), .load true 4 (.t 14), none⟩,
 ⟨(some 16), .call false (.t 11) [(.t 15)], none⟩] [0, 1, 5, 7, 8, 16])
 (.cond (.t 16)
 (.seq
 (.reg [⟨(some 17), .move (.t 5), none⟩,
 ⟨(some 4), .move (.t 17), none⟩] [4])
 (.ret))
 (.skip)))))
 (.reg [⟨(some 18), .bin .add (.t 8) (.c (.i .i64 1)), none⟩,
 ⟨(some 8), .move (.t 18), none⟩] [0, 1, 7, 8])))
def b163 : C :=
  .seq
 (.reg [⟨(some 4), .move (.c (.i .i64 0)), none⟩] [0, 1])
 (.seq
 (.seq
 (.reg [⟨(some 6), .move (.t 0), none⟩,
 ⟨(some 7), .len false (.t 6), none⟩,
 ⟨(some 8), .move (.c (.i .i64 0)), none⟩] [0, 1, 7, 8])
 (.block 0 (.loop l163_0)))
 (.seq
 (.reg [⟨(some 4), .move (.c (.i .i64 (-1))), none⟩] [4])
 (.ret)))
def c163 : SF := ⟨19, [.t 4], b163, none⟩

/-- (workpiece/integer.number).times -/
def h164 : Hints := ⟨[(0, [1, 2]), (1, [1, 2, 5]), (2, [2, 5, 9]), (3, [2, 5, 7]), (4, [2, 5, 7, 14]), (5, [2, 5, 7]), (6, []), (7, [4])], [(5, 0), (5, 2)]⟩
def l164_0 : C :=
  .reg [⟨(some 7), .move (.t 11), none⟩] [2, 5, 7]
def l164_1 : C :=
  .block 1 (.seq
 (.seq
 (.reg [⟨(some 12), .load false 1 (.t 5), none⟩,
 ⟨(some 13), .len false (.t 12), none⟩,
 ⟨(some 14), .bin .gtr (.t 13) (.c (.i .i64 0)), none⟩] [2, 5, 7, 14])
 (.cond (.t 14)
 (.reg [⟨(some 15), .bslice true 3 1 [(.i .i64 0)] 1 [(0, (.c (.i .i64 0)))], none⟩,
 ⟨(some 16), .load false 1 (.t 5), none⟩,
 ⟨(some 17), .appF 3 1 8 (.t 15) (.t 16), none⟩,
 ⟨none, .store 1 (.t 5) (.t 17), none⟩] [2, 5, 7])
 (.skip)))
 (.draw [⟨0, ⟨(some 18), .load false 1 (.t 5), none⟩, 0, []⟩,
 ⟨1, ⟨(some 19), .load false 1 (.t 2), none⟩, 0, []⟩,
 ⟨2, ⟨(some 20), .move (.t 7), none⟩, 0, []⟩,
 ⟨3, ⟨(some 21), .call false (.f 150) [(.t 19), (.t 20)], none⟩, 1, [0]⟩,
 ⟨4, ⟨(some 22), .call false (.f 103) [(.t 18), (.t 21)], none⟩, 1, []⟩,
 ⟨5, ⟨none, .store 1 (.t 5) (.t 22), none⟩, 1, []⟩] []))
def b164 : C :=
  .seq
 (.reg [⟨(some 2), .box 101 (.t 0), none⟩,
 ⟨(some 4), .move (.c (.ls [])), none⟩] [1, 2])
 (.seq
 (.reg [⟨(some 5), .alloc 101 [(.ls [])], none⟩] [1, 2, 5])
 (.seq
 (.seq
 (.reg [⟨(some 8), .move (.t 1), none⟩,
 ⟨(some 9), .call false (.f 148) [(.t 8)], none⟩] [2, 5, 9])
 (.block 0 (.range (.t 9) [10, 11] l164_0 l164_1)))
 (.seq
 (.reg [⟨(some 23), .load false 1 (.t 5), none⟩,
 ⟨(some 4), .move (.t 23), none⟩] [4])
 (.ret))))
def c164 : SF := ⟨24, [.t 4], b164, none⟩

/-- (*workpiece/rational.work).quotient$1 -/
def h165 : Hints := ⟨[(0, [0, 1]), (1, [6, 8]), (2, [4, 5])], []⟩
def b165 : C :=
  .seq
 (.reg [⟨(some 4), .move (.c (.s [])), none⟩,
 ⟨(some 5), .move (.c (.i .i64 0)), none⟩] [0, 1])
 (.seq
 (.reg [⟨(some 10), .move (.t 0), none⟩,
 ⟨(some 11), .move (.t 1), none⟩,
 ⟨(some 12), .call false (.f 47) [(.t 10), (.t 11)], none⟩,
 ⟨(some 9), .move (.t 12), none⟩,
 ⟨(some 13), .ext (.t 9) 0, none⟩,
 ⟨(some 14), .ext (.t 9) 1, none⟩,
 ⟨(some 15), .ext (.t 9) 2, none⟩,
 ⟨(some 6), .move (.t 13), none⟩,
 ⟨(some 7), .move (.t 14), none⟩,
 ⟨(some 8), .move (.t 15), none⟩] [6, 8])
 (.seq
 (.reg [⟨(some 16), .move (.t 6), none⟩,
 ⟨(some 17), .move (.t 8), none⟩,
 ⟨(some 4), .move (.t 16), none⟩,
 ⟨(some 5), .move (.t 17), none⟩] [4, 5])
 (.ret)))
def c165 : SF := ⟨18, [.t 4, .t 5], b165, none⟩

/-- workpiece/workpieceref03.trim -/
def h171 : Hints := ⟨[(0, [0]), (1, [0, 14]), (2, [0]), (3, [2])], []⟩
def l171_0 : C :=
  .seq
 (.seq
 (.reg [⟨(some 3), .move (.t 0), none⟩,
 ⟨(some 4), .len false (.t 3), none⟩,
 ⟨(some 5), .bin .gtr (.t 4) (.c (.i .i64 0)), none⟩,
 ⟨(some 6), .move (.t 5), none⟩,
 ⟨(some 7), .move (.t 0), some (6, true)⟩,
 ⟨(some 8), .move (.t 0), some (6, true)⟩,
 ⟨(some 9), .len false (.t 8), some (6, true)⟩,
 ⟨(some 10), .bin .sub (.t 9) (.c (.i .i64 1)), some (6, true)⟩,
 ⟨(some 11), .ixS 1 (.t 7) (.t 10), some (6, true)⟩,
 ⟨(some 12), .load false 1 (.t 11), some (6, true)⟩,
 ⟨(some 13), .bin .eql (.t 12) (.c (.i .i64 0)), some (6, true)⟩,
 ⟨(some 14), .pick (.t 6) (.t 13) (.c (.b false)), none⟩] [0, 14])
 (.cond (.t 14)
 (.skip)
 (.exit 0)))
 (.block 1 (.reg [⟨(some 15), .move (.t 0), none⟩,
 ⟨(some 16), .move (.t 0), none⟩,
 ⟨(some 17), .len false (.t 16), none⟩,
 ⟨(some 18), .bin .sub (.t 17) (.c (.i .i64 1)), none⟩,
 ⟨(some 19), .slL 1 (.t 15) none (some (.t 18)), none⟩,
 ⟨(some 0), .move (.t 19), none⟩] [0]))
def b171 : C :=
  .seq
 (.reg [⟨(some 2), .move (.c (.ls [])), none⟩] [0])
 (.seq
 (.block 0 (.loop l171_0))
 (.seq
 (.reg [⟨(some 20), .move (.t 0), none⟩,
 ⟨(some 2), .move (.t 20), none⟩] [2])
 (.ret)))
def c171 : SF := ⟨21, [.t 2], b171, none⟩

/-- slices.Backward[workpiece/integer.number,int]$1 -/
def h178 : Hints := ⟨[(0, [0, 1, 3]), (1, [0, 1, 3, 8]), (3, [0, 1, 3, 18]), (2, [0, 1, 3])], []⟩
def l178_0 : C :=
  .seq
 (.seq
 (.reg [⟨(some 7), .move (.t 3), none⟩,
 ⟨(some 8), .bin .geq (.t 7) (.c (.i .i64 0)), none⟩] [0, 1, 3, 8])
 (.cond (.t 8)
 (.skip)
 (.exit 0)))
 (.seq
 (.block 1 (.seq
 (.reg [⟨(some 11), .move (.t 0), none⟩,
 ⟨(some 12), .move (.t 3), none⟩,
 ⟨(some 13), .load false 1 (.t 1), none⟩,
 ⟨(some 14), .move (.t 3), none⟩,
 ⟨(some 15), .ixS 1 (.t 13) (.t 14), none⟩,
 ⟨(some 16), .load false 1 (.t 15), none⟩,
 ⟨(some 17), .call false (.t 11) [(.t 12), (.t 16)], none⟩,
 ⟨(some 18), .un .not (.t 17), none⟩] [0, 1, 3, 18])
 (.cond (.t 18)
 (.ret)
 (.skip))))
 (.reg [⟨(some 9), .move (.t 3), none⟩,
 ⟨(some 10), .bin .sub (.t 9) (.c (.i .i64 1)), none⟩,
 ⟨(some 3), .move (.t 10), none⟩] [0, 1, 3]))
def b178 : C :=
  .seq
 (.reg [⟨(some 4), .load false 1 (.t 1), none⟩,
 ⟨(some 5), .len false (.t 4), none⟩,
 ⟨(some 6), .bin .sub (.t 5) (.c (.i .i64 1)), none⟩,
 ⟨(some 3), .move (.t 6), none⟩] [0, 1, 3])
 (.block 0 (.loop l178_0))
def c178 : SF := ⟨19, [], b178, none⟩

/-- (workpiece/integer.number).by$1 -/
def h179 : Hints := ⟨[(0, [0, 1, 2]), (1, [4])], []⟩
def b179 : C :=
  .seq
 (.reg [⟨(some 4), .move (.c (.i .i64 0)), none⟩] [0, 1, 2])
 (.seq
 (.draw [⟨0, ⟨(some 5), .load false 1 (.t 1), none⟩, 0, []⟩,
 ⟨1, ⟨(some 6), .move (.t 0), none⟩, 0, []⟩,
 ⟨3, ⟨(some 8), .load false 1 (.t 2), none⟩, 0, []⟩,
 ⟨2, ⟨(some 7), .call false (.f 155) [(.t 5), (.t 6)], none⟩, 1, [3]⟩,
 ⟨4, ⟨(some 9), .bin .mul (.t 7) (.t 8), none⟩, 0, []⟩,
 ⟨5, ⟨(some 4), .move (.t 9), none⟩, 0, []⟩] [4])
 (.ret))
def c179 : SF := ⟨10, [.t 4], b179, none⟩

/-- cmp.isNaN[int] -/
def h182 : Hints := ⟨[(0, [0]), (1, [2])], []⟩
def b182 : C :=
  .seq
 (.reg [⟨(some 2), .move (.c (.b false)), none⟩] [0])
 (.seq
 (.reg [⟨(some 3), .move (.t 0), none⟩,
 ⟨(some 4), .move (.t 0), none⟩,
 ⟨(some 5), .bin .neq (.t 3) (.t 4), none⟩,
 ⟨(some 2), .move (.t 5), none⟩] [2])
 (.ret))
def c182 : SF := ⟨6, [.t 2], b182, none⟩

def tabF : List (Nat × SF) := [
  (3, c3),
  (10, c10),
  (11, c11),
  (12, c12),
  (13, c13),
  (14, c14),
  (15, c15),
  (16, c16),
  (17, c17),
  (18, c18),
  (21, c21),
  (22, c22),
  (23, c23),
  (26, c26),
  (33, c33),
  (35, c35),
  (37, c37),
  (41, c41),
  (42, c42),
  (43, c43),
  (44, c44),
  (45, c45),
  (46, c46),
  (47, c47),
  (48, c48),
  (49, c49),
  (50, c50),
  (51, c51),
  (52, c52),
  (53, c53),
  (54, c54),
  (55, c55),
  (56, c56),
  (57, c57),
  (58, c58),
  (59, c59),
  (65, c65),
  (66, c66),
  (67, c67),
  (68, c68),
  (69, c69),
  (70, c70),
  (71, c71),
  (72, c72),
  (73, c73),
  (74, c74),
  (78, c78),
  (79, c79),
  (80, c80),
  (81, c81),
  (92, c92),
  (93, c93),
  (95, c95),
  (96, c96),
  (97, c97),
  (98, c98),
  (99, c99),
  (100, c100),
  (101, c101),
  (102, c102),
  (103, c103),
  (104, c104),
  (105, c105),
  (106, c106),
  (107, c107),
  (110, c110),
  (111, c111),
  (112, c112),
  (113, c113),
  (114, c114),
  (115, c115),
  (116, c116),
  (117, c117),
  (119, c119),
  (121, c121),
  (122, c122),
  (123, c123),
  (124, c124),
  (125, c125),
  (126, c126),
  (127, c127),
  (128, c128),
  (130, c130),
  (141, c141),
  (143, c143),
  (144, c144),
  (145, c145),
  (146, c146),
  (147, c147),
  (148, c148),
  (149, c149),
  (150, c150),
  (151, c151),
  (152, c152),
  (153, c153),
  (154, c154),
  (155, c155),
  (156, c156),
  (158, c158),
  (160, c160),
  (163, c163),
  (164, c164),
  (165, c165),
  (171, c171),
  (178, c178),
  (179, c179),
  (182, c182)]
def tabD : List (Nat × DF) := [
  (108, d108),
  (140, d140)]
end Go.Proofs.YtmiioebapckcoaaGreatDoor
end
