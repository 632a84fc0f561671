/- Part 9 of a proof: the small semantics, its soundness, the functions of the program in it, and the law. -/
import Derived.Test.YtmiioebapckcoaaGreatDoorJh
set_option linter.unusedVariables false
set_option linter.unusedSimpArgs false
namespace Go.Proofs.YtmiioebapckcoaaGreatDoor
section
open Go
def h6:Hints:=⟨[(0,[5,6,7,8,9,10]),(1,[5,6,7,8,9,10,13]),(2,[5,6,7,8,9,10,13]),(3,[5,6,7,8,9,10,13]),(4,[5,6,7,8,9,13,14]),(5,[5,6,7,8,9,13,14,15]),(6,[5,6,7,8,9,13,15,16]),(7,[5,6,7,8,9,13,15,16,51]),(8,[5,6,7,8,9,13,15]),(9,[5,6,7,9,13,15,18]),(10,[5,6,7,13,15,18,19]),(11,[5,13,76,77,78]),(12,[5,13,76,77,78,79]),(13,[5,13,21,76,77,78]),(14,[5,13,21,76,77,78,85,86,87]),(15,[5,13,21,76,77,78,85,86,87,88]),(16,[5,13,21,23,76,77,78,85,86,87]),(17,[5,13,21,23,24,25,76,77,78,85,86,87]),(18,[5,13,21,24,25,26,27,76,77,78,85,86,87]),(19,[5,13,21,24,25,26,27,28,76,77,78,85,86,87]),(20,[5,13,21,24,25,26,27,28,76,77,78,85,86,87,112]),(22,[5,13,21,24,25,26,27,28,76,77,78,85,86,87,134]),(23,[12]),(21,[5,13,21,24,25,26,27,28,76,77,78,85,86,87]),(24,[5,13,21,76,77,78,85,86,87]),(25,[5,13,21,29,30,76,77,78]),(26,[5,13,21,29,30,31,32,76,77,78]),(27,[5,13,21,29,30,31,32,33,76,77,78]),(28,[5,13,76,77,78,198]),(29,[12]),(30,[5,13,76,77,78]),(31,[12])],[]⟩
def l6_0:C :=
 .seq
 (.seq
 (.reg [mv 109 28,
 mv 110 26,
 o1 111 (.len false (.t 110)),
 o1 112 (.bin .lss (.t 109) (.t 111))] [5,13,21,24,25,26,27,28,76,77,78,85,86,87,112])
 (.cond (.t 112)
 (.skip)
 (.exit 4)))
 (.seq
 (.block 5 (.seq
 (.draw [⟨0,mv 115 24,0,[]⟩,
 ⟨1,mv 116 28,0,[]⟩,
 ⟨2,o1 117 (.ixS 4 (.t 115) (.t 116)),0,[]⟩,
 ⟨3,o1 118 (.load true 4 (.t 117)),0,[]⟩,
 ⟨4,mv 119 26,0,[]⟩,
 ⟨5,mv 120 28,0,[]⟩,
 ⟨6,o1 121 (.ixS 4 (.t 119) (.t 120)),0,[]⟩,
 ⟨7,o1 122 (.load true 4 (.t 121)),0,[]⟩,
 ⟨8,o1 123 (.eqS true [.s,.s,.s,.s] (.t 118) (.t 122)),0,[]⟩,
 ⟨9,mv 124 123,0,[]⟩,
 ⟨10,⟨(some 125),.move (.t 25),some (124,false)⟩,0,[]⟩,
 ⟨11,⟨(some 126),.move (.t 28),some (124,false)⟩,0,[]⟩,
 ⟨12,⟨(some 127),.ixS 1 (.t 125) (.t 126),some (124,false)⟩,0,[]⟩,
 ⟨13,⟨(some 128),.load false 1 (.t 127),some (124,false)⟩,0,[]⟩,
 ⟨14,⟨(some 129),.move (.t 27),some (124,false)⟩,0,[]⟩,
 ⟨15,⟨(some 130),.move (.t 28),some (124,false)⟩,0,[]⟩,
 ⟨16,⟨(some 131),.ixS 1 (.t 129) (.t 130),some (124,false)⟩,0,[]⟩,
 ⟨17,⟨(some 132),.load false 1 (.t 131),some (124,false)⟩,0,[]⟩,
 ⟨18,⟨(some 133),.bin .neq (.t 128) (.t 132),some (124,false)⟩,0,[]⟩,
 ⟨19,o1 134 (.pick (.t 124) (.c (.b true)) (.t 133)),0,[]⟩] [5,13,21,24,25,26,27,28,76,77,78,85,86,87,134])
 (.cond (.t 134)
 (.seq
 (.reg [o1 12 (.move (.c (.b false)))] [12])
 (.ret))
 (.skip))))
 (.reg [mv 113 28,
 o1 114 (.bin .add (.t 113) (.c (.i .i64 1))),
 mv 28 114] [5,13,21,24,25,26,27,28,76,77,78,85,86,87]))
def l6_1:C :=
 .seq
 (.reg [o1 88 (.bin .lss (.t 87) (.t 86))] [5,13,21,76,77,78,85,86,87,88])
 (.seq
 (.cond (.t 88)
 (.skip)
 (.exit 2))
 (.seq
 (.block 3 (.seq
 (.reg [o1 89 (.ixS 1 (.t 85) (.t 87)),
 o1 90 (.load false 1 (.t 89)),
 mv 23 90] [5,13,21,23,76,77,78,85,86,87])
 (.seq
 (.reg [o1 92 (.ixA 2 4 (.t 21) (.c (.i .i64 0))),
 o1 93 (.load true 4 (.t 92)),
 o1 94 (.ixA 2 4 (.t 21) (.c (.i .i64 1))),
 o1 95 (.load true 4 (.t 94)),
 mv 96 23,
 o1 97 (.call false (.f 31) [(.t 93),(.t 95),(.t 96)]),
 mv 91 97,
 o1 98 (.ext (.t 91) 0),
 o1 99 (.ext (.t 91) 1),
 mv 24 98,
 mv 25 99] [5,13,21,23,24,25,76,77,78,85,86,87])
 (.seq
 (.reg [o1 101 (.ixA 2 4 (.t 21) (.c (.i .i64 0))),
 o1 102 (.load true 4 (.t 101)),
 o1 103 (.ixA 2 4 (.t 21) (.c (.i .i64 1))),
 o1 104 (.load true 4 (.t 103)),
 mv 105 23,
 o1 106 (.call false (.f 32) [(.t 102),(.t 104),(.t 105)]),
 mv 100 106,
 o1 107 (.ext (.t 100) 0),
 o1 108 (.ext (.t 100) 1),
 mv 26 107,
 mv 27 108] [5,13,21,24,25,26,27,76,77,78,85,86,87])
 (.seq
 (.reg [o1 28 (.move (.c (.i .i64 0)))] [5,13,21,24,25,26,27,28,76,77,78,85,86,87])
 (.block 4 (.loop l6_0)))))))
 (.reg [o1 135 (.bin .add (.t 87) (.c (.i .i64 1))),
 mv 87 135] [5,13,21,76,77,78,85,86,87])))
def l6_2:C :=
 .seq
 (.reg [o1 79 (.bin .lss (.t 78) (.t 77))] [5,13,76,77,78,79])
 (.seq
 (.cond (.t 79)
 (.skip)
 (.exit 0))
 (.seq
 (.block 1 (.seq
 (.reg [o1 80 (.ixS 8 (.t 76) (.t 78)),
 o1 81 (.load true 8 (.t 80)),
 o1 21 (.alloc 49 [(.s []),(.s []),(.s []),(.s []),(.s []),(.s []),(.s []),(.s [])]),
 ⟨none,.store 8 (.t 21) (.t 81),none⟩] [5,13,21,76,77,78])
 (.seq
 (.seq
 (.reg [mv 82 5,
 mv 83 5,
 o1 84 (.call false (.f 11) [(.t 83),(.c (.i .i64 31))]),
 o1 85 (.bslice false 3 1 [(.i .i64 0)] 2 [(0,(.t 82)),(1,(.t 84))]),
 o1 86 (.len false (.t 85)),
 o1 87 (.move (.c (.i .i64 0)))] [5,13,21,76,77,78,85,86,87])
 (.block 2 (.loop l6_1)))
 (.seq
 (.reg [o1 137 (.ixA 2 4 (.t 21) (.c (.i .i64 0))),
 o1 138 (.load true 4 (.t 137)),
 o1 139 (.call false (.f 33) [(.t 138)]),
 mv 136 139,
 o1 140 (.ext (.t 136) 0),
 o1 141 (.ext (.t 136) 1),
 o1 29 (.alloc 26 [(.s []),(.s [])]),
 ⟨none,.store 2 (.t 29) (.t 140),none⟩,
 mv 30 141] [5,13,21,29,30,76,77,78])
 (.seq
 (.reg [o1 143 (.ixA 2 4 (.t 21) (.c (.i .i64 0))),
 o1 144 (.load true 4 (.t 143)),
 o1 145 (.call false (.f 34) [(.t 144)]),
 mv 142 145,
 o1 146 (.ext (.t 142) 0),
 o1 147 (.ext (.t 142) 1),
 o1 31 (.alloc 26 [(.s []),(.s [])]),
 ⟨none,.store 2 (.t 31) (.t 146),none⟩,
 mv 32 147] [5,13,21,29,30,31,32,76,77,78])
 (.seq
 (.reg [o1 148 (.ixA 2 4 (.t 21) (.c (.i .i64 1))),
 o1 149 (.fieldAddr 0 (.t 148)),
 o1 150 (.load true 2 (.t 149)),
 o1 33 (.alloc 26 [(.s []),(.s [])]),
 ⟨none,.store 2 (.t 33) (.t 150),none⟩] [5,13,21,29,30,31,32,33,76,77,78])
 (.seq
 (.draw [⟨0,o1 151 (.load true 2 (.t 29)),0,[]⟩,
 ⟨1,o1 152 (.load true 2 (.t 31)),0,[]⟩,
 ⟨2,o1 153 (.eqS true [.s,.s] (.t 151) (.t 152)),0,[]⟩,
 ⟨3,mv 154 153,0,[]⟩,
 ⟨4,⟨(some 155),.move (.t 30),some (154,false)⟩,0,[]⟩,
 ⟨5,⟨(some 156),.move (.t 32),some (154,false)⟩,0,[]⟩,
 ⟨6,⟨(some 157),.bin .neq (.t 155) (.t 156),some (154,false)⟩,0,[]⟩,
 ⟨7,o1 158 (.pick (.t 154) (.c (.b true)) (.t 157)),0,[]⟩,
 ⟨8,mv 159 158,0,[]⟩,
 ⟨9,⟨(some 160),.ixA 2 4 (.t 21) (.c (.i .i64 0)),some (159,false)⟩,0,[]⟩,
 ⟨10,⟨(some 161),.load true 4 (.t 160),some (159,false)⟩,0,[]⟩,
 ⟨12,⟨(some 163),.ixA 2 4 (.t 21) (.c (.i .i64 0)),some (159,false)⟩,0,[]⟩,
 ⟨13,⟨(some 164),.load true 4 (.t 163),some (159,false)⟩,0,[]⟩,
 ⟨11,⟨(some 162),.call false (.f 35) [(.t 161)],some (159,false)⟩,1,[13]⟩,
 ⟨14,⟨(some 165),.call false (.f 36) [(.t 164)],some (159,false)⟩,1,[]⟩,
 ⟨15,⟨(some 166),.eqB true (.t 162) (.t 165),some (159,false)⟩,0,[]⟩,
 ⟨16,o1 167 (.pick (.t 159) (.c (.b true)) (.t 166)),0,[]⟩,
 ⟨17,mv 168 167,0,[]⟩,
 ⟨18,⟨(some 169),.load true 2 (.t 33),some (168,false)⟩,0,[]⟩,
 ⟨20,⟨(some 171),.load true 2 (.t 33),some (168,false)⟩,0,[]⟩,
 ⟨19,⟨(some 170),.call false (.f 37) [(.t 169)],some (168,false)⟩,1,[20]⟩,
 ⟨21,⟨(some 172),.call false (.f 38) [(.t 171)],some (168,false)⟩,1,[]⟩,
 ⟨22,⟨(some 173),.eqS true [.s,.s,.s,.s] (.t 170) (.t 172),some (168,false)⟩,0,[]⟩,
 ⟨23,o1 174 (.pick (.t 168) (.c (.b true)) (.t 173)),0,[]⟩,
 ⟨24,mv 175 174,0,[]⟩,
 ⟨25,⟨(some 176),.ixA 2 4 (.t 21) (.c (.i .i64 0)),some (175,false)⟩,0,[]⟩,
 ⟨26,⟨(some 177),.load true 4 (.t 176),some (175,false)⟩,0,[]⟩,
 ⟨27,⟨(some 178),.load true 2 (.t 33),some (175,false)⟩,0,[]⟩,
 ⟨29,⟨(some 180),.ixA 2 4 (.t 21) (.c (.i .i64 0)),some (175,false)⟩,0,[]⟩,
 ⟨30,⟨(some 181),.load true 4 (.t 180),some (175,false)⟩,0,[]⟩,
 ⟨31,⟨(some 182),.load true 2 (.t 33),some (175,false)⟩,0,[]⟩,
 ⟨28,⟨(some 179),.call false (.f 23) [(.t 177),(.t 178)],some (175,false)⟩,1,[31,30]⟩,
 ⟨32,⟨(some 183),.call false (.f 39) [(.t 181),(.t 182)],some (175,false)⟩,1,[]⟩,
 ⟨33,⟨(some 184),.eqB true (.t 179) (.t 183),some (175,false)⟩,0,[]⟩,
 ⟨34,o1 185 (.pick (.t 175) (.c (.b true)) (.t 184)),0,[]⟩,
 ⟨35,mv 186 185,0,[]⟩,
 ⟨36,⟨(some 187),.ixA 2 4 (.t 21) (.c (.i .i64 0)),some (186,false)⟩,0,[]⟩,
 ⟨37,⟨(some 188),.load true 4 (.t 187),some (186,false)⟩,0,[]⟩,
 ⟨38,⟨(some 189),.ixA 2 4 (.t 21) (.c (.i .i64 1)),some (186,false)⟩,0,[]⟩,
 ⟨39,⟨(some 190),.load true 4 (.t 189),some (186,false)⟩,0,[]⟩,
 ⟨41,⟨(some 192),.ixA 2 4 (.t 21) (.c (.i .i64 0)),some (186,false)⟩,0,[]⟩,
 ⟨42,⟨(some 193),.load true 4 (.t 192),some (186,false)⟩,0,[]⟩,
 ⟨43,⟨(some 194),.ixA 2 4 (.t 21) (.c (.i .i64 1)),some (186,false)⟩,0,[]⟩,
 ⟨44,⟨(some 195),.load true 4 (.t 194),some (186,false)⟩,0,[]⟩,
 ⟨40,⟨(some 191),.call false (.f 15) [(.t 188),(.t 190)],some (186,false)⟩,1,[44,42]⟩,
 ⟨45,⟨(some 196),.call false (.f 40) [(.t 193),(.t 195)],some (186,false)⟩,1,[]⟩,
 ⟨46,⟨(some 197),.eqB true (.t 191) (.t 196),some (186,false)⟩,0,[]⟩,
 ⟨47,o1 198 (.pick (.t 186) (.c (.b true)) (.t 197)),0,[]⟩] [5,13,76,77,78,198])
 (.cond (.t 198)
 (.seq
 (.reg [o1 12 (.move (.c (.b false)))] [12])
 (.ret))
 (.skip)))))))))
 (.reg [o1 199 (.bin .add (.t 78) (.c (.i .i64 1))),
 mv 78 199] [5,13,76,77,78])))
def b6:C :=
 .seq
 (.reg [o1 6 (.box 29 (.t 0)),
 o1 7 (.box 29 (.t 1)),
 o1 8 (.box 22 (.t 2)),
 o1 9 (.box 22 (.t 3)),
 o1 10 (.box 22 (.t 4)),
 o1 12 (.move (.c (.b false)))] [5,6,7,8,9,10])
 (.seq
 (.reg [o1 34 (.call false (.f 10) []),
 mv 13 34] [5,6,7,8,9,10,13])
 (.seq
 (.reg [o1 35 (.load true 4 (.t 6)),
 o1 36 (.call false (.f 28) [(.t 35)]),
 ⟨none,.store 4 (.t 6) (.t 36),none⟩] [5,6,7,8,9,10,13])
 (.seq
 (.reg [o1 37 (.load true 4 (.t 7)),
 o1 38 (.call false (.f 28) [(.t 37)]),
 ⟨none,.store 4 (.t 7) (.t 38),none⟩] [5,6,7,8,9,10,13])
 (.seq
 (.reg [o1 39 (.load true 4 (.t 10)),
 o1 40 (.call false (.f 12) [(.t 39)]),
 o1 14 (.alloc 26 [(.s []),(.s [])]),
 ⟨none,.store 2 (.t 14) (.t 40),none⟩] [5,6,7,8,9,13,14])
 (.seq
 (.reg [o1 41 (.load true 2 (.t 14)),
 o1 42 (.load true 2 (.t 14)),
 o1 43 (.build [(.s []),(.s []),(.s []),(.s [])] [(0,2,(.t 41)),(2,2,(.t 42))]),
 o1 15 (.alloc 29 [(.s []),(.s []),(.s []),(.s [])]),
 ⟨none,.store 4 (.t 15) (.t 43),none⟩] [5,6,7,8,9,13,14,15])
 (.seq
 (.draw [⟨0,o1 45 (.load true 2 (.t 14)),0,[]⟩,
 ⟨1,o1 46 (.call false (.f 16) [(.c (.i .i64 1)),(.c (.i .i64 3))]),1,[0]⟩,
 ⟨2,o1 47 (.call false (.f 29) [(.t 45),(.t 46)]),1,[]⟩,
 ⟨3,mv 44 47,0,[]⟩,
 ⟨4,o1 48 (.ext (.t 44) 0),0,[]⟩,
 ⟨5,o1 49 (.ext (.t 44) 1),0,[]⟩,
 ⟨6,o1 16 (.alloc 26 [(.s []),(.s [])]),2,[]⟩,
 ⟨7,⟨none,.store 2 (.t 16) (.t 48),none⟩,1,[]⟩,
 ⟨8,mv 17 49,0,[]⟩] [5,6,7,8,9,13,15,16])
 (.seq
 (.seq
 (.reg [o1 50 (.load true 2 (.t 16)),
 o1 51 (.call false (.f 30) [(.t 50)])] [5,6,7,8,9,13,15,16,51])
 (.cond (.t 51)
 (.reg [o1 52 (.load true 2 (.t 16)),
 o1 53 (.fieldAddr 0 (.t 15)),
 ⟨none,.store 2 (.t 53) (.t 52),none⟩] [5,6,7,8,9,13,15])
 (.skip)))
 (.seq
 (.reg [o1 54 (.load true 4 (.t 8)),
 o1 55 (.call false (.f 19) [(.t 54)]),
 o1 18 (.alloc 29 [(.s []),(.s []),(.s []),(.s [])]),
 ⟨none,.store 4 (.t 18) (.t 55),none⟩] [5,6,7,9,13,15,18])
 (.seq
 (.reg [o1 56 (.load true 4 (.t 9)),
 o1 57 (.call false (.f 19) [(.t 56)]),
 o1 19 (.alloc 29 [(.s []),(.s []),(.s []),(.s [])]),
 ⟨none,.store 4 (.t 19) (.t 57),none⟩] [5,6,7,13,15,18,19])
 (.seq
 (.seq
 (.reg [o1 58 (.load true 4 (.t 6)),
 o1 59 (.load true 4 (.t 7)),
 o1 60 (.build [(.s []),(.s []),(.s []),(.s []),(.s []),(.s []),(.s []),(.s [])] [(0,4,(.t 58)),(4,4,(.t 59))]),
 o1 61 (.load true 4 (.t 18)),
 o1 62 (.load true 4 (.t 19)),
 o1 63 (.build [(.s []),(.s []),(.s []),(.s []),(.s []),(.s []),(.s []),(.s [])] [(0,4,(.t 61)),(4,4,(.t 62))]),
 o1 64 (.load true 4 (.t 6)),
 o1 65 (.load true 4 (.t 18)),
 o1 66 (.build [(.s []),(.s []),(.s []),(.s []),(.s []),(.s []),(.s []),(.s [])] [(0,4,(.t 64)),(4,4,(.t 65))]),
 o1 67 (.load true 4 (.t 15)),
 o1 68 (.load true 4 (.t 18)),
 o1 69 (.build [(.s []),(.s []),(.s []),(.s []),(.s []),(.s []),(.s []),(.s [])] [(0,4,(.t 67)),(4,4,(.t 68))]),
 o1 70 (.load true 4 (.t 18)),
 o1 71 (.load true 4 (.t 15)),
 o1 72 (.build [(.s []),(.s []),(.s []),(.s []),(.s []),(.s []),(.s []),(.s [])] [(0,4,(.t 70)),(4,4,(.t 71))]),
 o1 73 (.load true 4 (.t 15)),
 o1 74 (.load true 4 (.t 15)),
 o1 75 (.build [(.s []),(.s []),(.s []),(.s []),(.s []),(.s []),(.s []),(.s [])] [(0,4,(.t 73)),(4,4,(.t 74))]),
 o1 76 (.bslice false 49 8 [(.s []),(.s []),(.s []),(.s []),(.s []),(.s []),(.s []),(.s [])] 6 [(0,(.t 60)),(1,(.t 63)),(2,(.t 66)),(3,(.t 69)),(4,(.t 72)),(5,(.t 75))]),
 o1 77 (.len false (.t 76)),
 o1 78 (.move (.c (.i .i64 0)))] [5,13,76,77,78])
 (.block 0 (.loop l6_2)))
 (.seq
 (.reg [mv 200 13,
 mv 12 200] [12])
 (.ret))))))))))))
def c6:SF:=⟨201,[.t 12],b6,none⟩
def h10:Hints:=⟨[(0,[]),(1,[1,2]),(2,[1,2,4]),(3,[1,2,4,5,6]),(4,[1,2,4,5,6,7,8]),(5,[1,2,4,5,6,7,8,9,10]),(6,[1,2,4,5,6,7,8,9,10,12]),(7,[1,2,4,5,6,7,8,9,10,12,13,14]),(8,[1,2,4,5,6,7,8,9,10,12,13,14,15,16]),(9,[1,5,7,9,10,12,13,14,15,16,17]),(10,[1,5,7,17,18]),(11,[0])],[]⟩
def b10:C :=
 .seq
 (.reg [o1 0 (.move (.c (.b false)))] [])
 (.seq
 (.reg [o1 20 (.call false (.f 42) [(.c (.i .i64 (-2))),(.c (.i .i64 3))]),
 o1 21 (.call false (.f 42) [(.c (.i .i64 (-5))),(.c (.i .i64 1))]),
 o1 22 (.call false (.f 41) [(.t 20),(.t 21)]),
 mv 19 22,
 o1 23 (.ext (.t 19) 0),
 o1 24 (.ext (.t 19) 1),
 o1 1 (.alloc 29 [(.s []),(.s []),(.s []),(.s [])]),
 ⟨none,.store 4 (.t 1) (.t 23),none⟩,
 mv 2 24] [1,2])
 (.seq
 (.reg [o1 26 (.call false (.f 42) [(.c (.i .i64 1)),(.c (.i .i64 2))]),
 o1 27 (.call false (.f 42) [(.c (.i .i64 (-1))),(.c (.i .i64 4))]),
 o1 28 (.call false (.f 43) [(.t 26),(.t 27)]),
 mv 25 28,
 o1 29 (.ext (.t 25) 0),
 o1 30 (.ext (.t 25) 1),
 o1 3 (.alloc 29 [(.s []),(.s []),(.s []),(.s [])]),
 ⟨none,.store 4 (.t 3) (.t 29),none⟩,
 mv 4 30] [1,2,4])
 (.seq
 (.reg [o1 32 (.call false (.f 42) [(.c (.i .i64 1)),(.c (.i .i64 2))]),
 o1 33 (.call false (.f 42) [(.c (.i .i64 2)),(.c (.i .i64 4))]),
 o1 34 (.call false (.f 43) [(.t 32),(.t 33)]),
 mv 31 34,
 o1 35 (.ext (.t 31) 0),
 o1 36 (.ext (.t 31) 1),
 o1 5 (.alloc 29 [(.s []),(.s []),(.s []),(.s [])]),
 ⟨none,.store 4 (.t 5) (.t 35),none⟩,
 mv 6 36] [1,2,4,5,6])
 (.seq
 (.reg [o1 38 (.call false (.f 42) [(.c (.i .i64 2)),(.c (.i .i64 3))]),
 o1 39 (.call false (.f 22) [(.t 38),(.c (.i .i64 1))]),
 mv 37 39,
 o1 40 (.ext (.t 37) 0),
 o1 41 (.ext (.t 37) 1),
 o1 7 (.alloc 29 [(.s []),(.s []),(.s []),(.s [])]),
 ⟨none,.store 4 (.t 7) (.t 40),none⟩,
 mv 8 41] [1,2,4,5,6,7,8])
 (.seq
 (.reg [o1 43 (.call false (.f 42) [(.c (.i .i64 1)),(.c (.i .i64 2))]),
 o1 44 (.call false (.f 42) [(.c (.i .i64 2)),(.c (.i .i64 5))]),
 o1 45 (.call false (.f 26) [(.t 43),(.t 44)]),
 mv 42 45,
 o1 46 (.ext (.t 42) 0),
 o1 47 (.ext (.t 42) 1),
 o1 9 (.alloc 29 [(.s []),(.s []),(.s []),(.s [])]),
 ⟨none,.store 4 (.t 9) (.t 46),none⟩,
 mv 10 47] [1,2,4,5,6,7,8,9,10])
 (.seq
 (.reg [o1 49 (.call false (.f 42) [(.c (.i .i64 1)),(.c (.i .i64 2))]),
 o1 50 (.call false (.f 42) [(.c (.i .i64 3)),(.c (.i .i64 5))]),
 o1 51 (.call false (.f 26) [(.t 49),(.t 50)]),
 mv 48 51,
 o1 52 (.ext (.t 48) 0),
 o1 53 (.ext (.t 48) 1),
 o1 11 (.alloc 29 [(.s []),(.s []),(.s []),(.s [])]),
 ⟨none,.store 4 (.t 11) (.t 52),none⟩,
 mv 12 53] [1,2,4,5,6,7,8,9,10,12])
 (.seq
 (.reg [o1 55 (.call false (.f 16) [(.c (.i .i64 1)),(.c (.i .i64 3))]),
 o1 56 (.call false (.f 16) [(.c (.i .i64 2)),(.c (.i .i64 3))]),
 o1 57 (.build [(.s []),(.s []),(.s []),(.s [])] [(0,2,(.t 55)),(2,2,(.t 56))]),
 o1 58 (.call false (.f 14) [(.t 57),(.c (.i .i64 1))]),
 mv 54 58,
 o1 59 (.ext (.t 54) 0),
 o1 60 (.ext (.t 54) 1),
 o1 13 (.alloc 29 [(.s []),(.s []),(.s []),(.s [])]),
 ⟨none,.store 4 (.t 13) (.t 59),none⟩,
 mv 14 60] [1,2,4,5,6,7,8,9,10,12,13,14])
 (.seq
 (.reg [o1 62 (.call false (.f 42) [(.c (.i .i64 (-1))),(.c (.i .i64 4))]),
 o1 63 (.call false (.f 33) [(.t 62)]),
 mv 61 63,
 o1 64 (.ext (.t 61) 0),
 o1 65 (.ext (.t 61) 1),
 o1 15 (.alloc 26 [(.s []),(.s [])]),
 ⟨none,.store 2 (.t 15) (.t 64),none⟩,
 mv 16 65] [1,2,4,5,6,7,8,9,10,12,13,14,15,16])
 (.seq
 (.draw [⟨0,o1 66 (.load true 4 (.t 1)),0,[]⟩,
 ⟨1,o1 67 (.call false (.f 42) [(.c (.i .i64 (-15))),(.c (.i .i64 10))]),1,[0]⟩,
 ⟨2,o1 68 (.eqS false [.s,.s,.s,.s] (.t 66) (.t 67)),0,[]⟩,
 ⟨3,mv 69 68,0,[]⟩,
 ⟨4,⟨(some 70),.move (.t 2),some (69,true)⟩,0,[]⟩,
 ⟨5,⟨(some 71),.bin .eql (.t 70) (.c (.i .i64 0)),some (69,true)⟩,0,[]⟩,
 ⟨6,o1 72 (.pick (.t 69) (.t 71) (.c (.b false))),0,[]⟩,
 ⟨7,mv 73 72,0,[]⟩,
 ⟨8,⟨(some 74),.move (.t 4),some (73,true)⟩,0,[]⟩,
 ⟨9,⟨(some 75),.bin .eql (.t 74) (.c (.i .i64 50)),some (73,true)⟩,0,[]⟩,
 ⟨10,o1 76 (.pick (.t 73) (.t 75) (.c (.b false))),0,[]⟩,
 ⟨11,mv 77 76,0,[]⟩,
 ⟨12,⟨(some 78),.load true 4 (.t 5),some (77,true)⟩,0,[]⟩,
 ⟨13,⟨(some 79),.call false (.f 16) [(.c (.i .i64 1)),(.c (.i .i64 4))],some (77,true)⟩,1,[12]⟩,
 ⟨14,⟨(some 80),.call false (.f 16) [(.c (.i .i64 1)),(.c (.i .i64 1))],some (77,true)⟩,1,[12]⟩,
 ⟨15,⟨(some 81),.build [(.s []),(.s []),(.s []),(.s [])] [(0,2,(.t 79)),(2,2,(.t 80))],some (77,true)⟩,0,[]⟩,
 ⟨16,⟨(some 82),.eqS false [.s,.s,.s,.s] (.t 78) (.t 81),some (77,true)⟩,0,[]⟩,
 ⟨17,o1 83 (.pick (.t 77) (.t 82) (.c (.b false))),0,[]⟩,
 ⟨18,mv 84 83,0,[]⟩,
 ⟨19,⟨(some 85),.move (.t 6),some (84,true)⟩,0,[]⟩,
 ⟨20,⟨(some 86),.bin .eql (.t 85) (.c (.i .i64 0)),some (84,true)⟩,0,[]⟩,
 ⟨21,o1 87 (.pick (.t 84) (.t 86) (.c (.b false))),0,[]⟩,
 ⟨22,mv 88 87,0,[]⟩,
 ⟨23,⟨(some 89),.load true 4 (.t 7),some (88,true)⟩,0,[]⟩,
 ⟨24,⟨(some 90),.call false (.f 16) [(.c (.i .i64 7)),(.c (.i .i64 5))],some (88,true)⟩,1,[23]⟩,
 ⟨25,⟨(some 91),.call false (.f 16) [(.c (.i .i64 9)),(.c (.i .i64 5))],some (88,true)⟩,1,[23]⟩,
 ⟨26,⟨(some 92),.build [(.s []),(.s []),(.s []),(.s [])] [(0,2,(.t 90)),(2,2,(.t 91))],some (88,true)⟩,0,[]⟩,
 ⟨27,⟨(some 93),.eqS false [.s,.s,.s,.s] (.t 89) (.t 92),some (88,true)⟩,0,[]⟩,
 ⟨28,o1 94 (.pick (.t 88) (.t 93) (.c (.b false))),0,[]⟩,
 ⟨29,mv 95 94,0,[]⟩,
 ⟨30,⟨(some 96),.move (.t 8),some (95,true)⟩,0,[]⟩,
 ⟨31,⟨(some 97),.bin .eql (.t 96) (.c (.i .i64 0)),some (95,true)⟩,0,[]⟩,
 ⟨32,o1 98 (.pick (.t 95) (.t 97) (.c (.b false))),0,[]⟩,
 ⟨33,mv 17 98,0,[]⟩] [1,5,7,9,10,12,13,14,15,16,17])
 (.seq
 (.draw [⟨0,o1 99 (.load true 4 (.t 9)),0,[]⟩,
 ⟨1,o1 100 (.call false (.f 42) [(.c (.i .i64 2)),(.c (.i .i64 2))]),1,[0]⟩,
 ⟨2,o1 101 (.eqS false [.s,.s,.s,.s] (.t 99) (.t 100)),0,[]⟩,
 ⟨3,mv 102 101,0,[]⟩,
 ⟨4,⟨(some 103),.move (.t 10),some (102,true)⟩,0,[]⟩,
 ⟨5,⟨(some 104),.bin .eql (.t 103) (.c (.i .i64 0)),some (102,true)⟩,0,[]⟩,
 ⟨6,o1 105 (.pick (.t 102) (.t 104) (.c (.b false))),0,[]⟩,
 ⟨7,mv 106 105,0,[]⟩,
 ⟨8,⟨(some 107),.move (.t 12),some (106,true)⟩,0,[]⟩,
 ⟨9,⟨(some 108),.bin .eql (.t 107) (.c (.i .i64 50)),some (106,true)⟩,0,[]⟩,
 ⟨10,o1 109 (.pick (.t 106) (.t 108) (.c (.b false))),0,[]⟩,
 ⟨11,mv 110 109,0,[]⟩,
 ⟨12,⟨(some 111),.load true 4 (.t 13),some (110,true)⟩,0,[]⟩,
 ⟨13,⟨(some 112),.call false (.f 16) [(.c (.i .i64 3)),(.c (.i .i64 10))],some (110,true)⟩,1,[12]⟩,
 ⟨14,⟨(some 113),.call false (.f 16) [(.c (.i .i64 7)),(.c (.i .i64 10))],some (110,true)⟩,1,[12]⟩,
 ⟨15,⟨(some 114),.build [(.s []),(.s []),(.s []),(.s [])] [(0,2,(.t 112)),(2,2,(.t 113))],some (110,true)⟩,0,[]⟩,
 ⟨16,⟨(some 115),.eqS false [.s,.s,.s,.s] (.t 111) (.t 114),some (110,true)⟩,0,[]⟩,
 ⟨17,o1 116 (.pick (.t 110) (.t 115) (.c (.b false))),0,[]⟩,
 ⟨18,mv 117 116,0,[]⟩,
 ⟨19,⟨(some 118),.move (.t 14),some (117,true)⟩,0,[]⟩,
 ⟨20,⟨(some 119),.bin .eql (.t 118) (.c (.i .i64 0)),some (117,true)⟩,0,[]⟩,
 ⟨21,o1 120 (.pick (.t 117) (.t 119) (.c (.b false))),0,[]⟩,
 ⟨22,mv 121 120,0,[]⟩,
 ⟨23,⟨(some 122),.load true 2 (.t 15),some (121,true)⟩,0,[]⟩,
 ⟨24,⟨(some 123),.call false (.f 16) [(.c (.i .i64 5)),(.c (.i .i64 1))],some (121,true)⟩,1,[23]⟩,
 ⟨25,⟨(some 124),.eqS false [.s,.s] (.t 122) (.t 123),some (121,true)⟩,0,[]⟩,
 ⟨26,o1 125 (.pick (.t 121) (.t 124) (.c (.b false))),0,[]⟩,
 ⟨27,mv 126 125,0,[]⟩,
 ⟨28,⟨(some 127),.move (.t 16),some (126,true)⟩,0,[]⟩,
 ⟨29,⟨(some 128),.bin .eql (.t 127) (.c (.i .i64 0)),some (126,true)⟩,0,[]⟩,
 ⟨30,o1 129 (.pick (.t 126) (.t 128) (.c (.b false))),0,[]⟩,
 ⟨31,mv 18 129,0,[]⟩] [1,5,7,17,18])
 (.seq
 (.draw [⟨0,mv 130 17,0,[]⟩,
 ⟨1,mv 131 130,0,[]⟩,
 ⟨2,⟨(some 132),.move (.t 18),some (131,true)⟩,0,[]⟩,
 ⟨3,o1 133 (.pick (.t 131) (.t 132) (.c (.b false))),0,[]⟩,
 ⟨4,mv 134 133,0,[]⟩,
 ⟨5,⟨(some 135),.load true 4 (.t 1),some (134,true)⟩,0,[]⟩,
 ⟨6,⟨(some 136),.call false (.f 35) [(.t 135)],some (134,true)⟩,1,[]⟩,
 ⟨7,o1 137 (.pick (.t 134) (.t 136) (.c (.b false))),0,[]⟩,
 ⟨8,mv 138 137,0,[]⟩,
 ⟨9,⟨(some 139),.call false (.f 42) [(.c (.i .i64 2)),(.c (.i .i64 1))],some (138,true)⟩,1,[]⟩,
 ⟨10,⟨(some 140),.call false (.f 35) [(.t 139)],some (138,true)⟩,1,[]⟩,
 ⟨11,⟨(some 141),.un .not (.t 140),some (138,true)⟩,0,[]⟩,
 ⟨12,o1 142 (.pick (.t 138) (.t 141) (.c (.b false))),0,[]⟩,
 ⟨13,mv 143 142,0,[]⟩,
 ⟨14,⟨(some 144),.load true 4 (.t 1),some (143,true)⟩,0,[]⟩,
 ⟨15,⟨(some 145),.call false (.f 16) [(.c (.i .i64 0)),(.c (.i .i64 1))],some (143,true)⟩,1,[14]⟩,
 ⟨16,⟨(some 146),.call false (.f 23) [(.t 144),(.t 145)],some (143,true)⟩,1,[]⟩,
 ⟨17,o1 147 (.pick (.t 143) (.t 146) (.c (.b false))),0,[]⟩,
 ⟨18,mv 148 147,0,[]⟩,
 ⟨19,⟨(some 149),.load true 4 (.t 5),some (148,true)⟩,0,[]⟩,
 ⟨20,⟨(some 150),.load true 4 (.t 7),some (148,true)⟩,0,[]⟩,
 ⟨21,⟨(some 151),.call false (.f 15) [(.t 149),(.t 150)],some (148,true)⟩,1,[]⟩,
 ⟨22,⟨(some 152),.un .not (.t 151),some (148,true)⟩,0,[]⟩,
 ⟨23,o1 153 (.pick (.t 148) (.t 152) (.c (.b false))),0,[]⟩,
 ⟨24,mv 154 153,0,[]⟩,
 ⟨25,⟨(some 155),.call false (.f 16) [(.c (.i .i64 3)),(.c (.i .i64 1))],some (154,true)⟩,1,[]⟩,
 ⟨26,⟨(some 156),.call false (.f 37) [(.t 155)],some (154,true)⟩,1,[]⟩,
 ⟨27,⟨(some 157),.call false (.f 42) [(.c (.i .i64 3)),(.c (.i .i64 3))],some (154,true)⟩,1,[]⟩,
 ⟨28,⟨(some 158),.eqS false [.s,.s,.s,.s] (.t 156) (.t 157),some (154,true)⟩,0,[]⟩,
 ⟨29,o1 159 (.pick (.t 154) (.t 158) (.c (.b false))),0,[]⟩,
 ⟨30,mv 0 159,0,[]⟩] [0])
 (.ret))))))))))))
def c10:SF:=⟨160,[.t 0],b10,none⟩
def h11:Hints:=⟨[(0,[0,1]),(1,[0,1,6]),(2,[0,1]),(3,[4])],[]⟩
def b11:C :=
 .seq
 (.reg [o1 4 (.move (.c (.i .i64 0)))] [0,1])
 (.seq
 (.seq
 (.reg [mv 5 0,
 o1 6 (.bin .lss (.t 5) (.c (.i .i64 0)))] [0,1,6])
 (.cond (.t 6)
 (.reg [mv 7 0,
 o1 8 (.bin .add (.t 7) (.c (.i .i64 1))),
 o1 9 (.un .neg (.t 8)),
 mv 0 9] [0,1])
 (.skip)))
 (.seq
 (.reg [mv 10 0,
 mv 11 1,
 o1 12 (.bin .rem (.t 10) (.t 11)),
 mv 4 12] [4])
 (.ret)))
def c11:SF:=⟨13,[.t 4],b11,none⟩
def h12:Hints:=⟨[(0,[1,2]),(1,[1,2,3]),(2,[1,2,3,4]),(3,[1,2,3,4,11]),(5,[1,2,3,4,5]),(6,[1,2,3,4,5,6]),(7,[1,2,3,4,5,6,7]),(8,[1,2,3,4,5,6,7,29]),(9,[1,2,3,4,5,6,7]),(10,[1,2,3,4,5,6,7]),(11,[1,2,3,4,6,50]),(12,[1,2,3,4,6]),(13,[1,2,3,4]),(4,[1,2,3,4]),(14,[1,2,3,58]),(15,[1,2,3]),(16,[2,3,68]),(17,[2,3]),(18,[2,8]),(19,[2])],[]⟩
def l12_0:C :=
 .seq
 (.seq
 (.reg [mv 26 6,
 o1 27 (.len true (.t 26)),
 mv 28 5,
 o1 29 (.bin .lss (.t 27) (.t 28))] [1,2,3,4,5,6,7,29])
 (.cond (.t 29)
 (.skip)
 (.exit 2)))
 (.block 3 (.seq
 (.reg [mv 30 7,
 o1 31 (.bin .mul (.t 30) (.c (.i .i64 48271))),
 o1 32 (.bin .add (.t 31) (.c (.i .i64 11))),
 o1 33 (.bin .rem (.t 32) (.c (.i .i64 2147483647))),
 mv 7 33] [1,2,3,4,5,6,7])
 (.reg [mv 34 6,
 mv 35 7,
 o1 36 (.bin .quo (.t 35) (.c (.i .i64 65536))),
 o1 37 (.bin .rem (.t 36) (.c (.i .i64 10))),
 o1 38 (.bin .add (.c (.i .i64 48)) (.t 37)),
 o1 39 (.conv .u8 (.t 38)),
 o1 40 (.bslice false 5 1 [(.i .u8 0)] 1 [(0,(.t 39))]),
 o1 41 (.convBS (.t 40)),
 o1 42 (.bin .add (.t 34) (.t 41)),
 mv 6 42] [1,2,3,4,5,6,7])))
def l12_1:C :=
 .seq
 (.seq
 (.reg [mv 43 6,
 o1 44 (.len true (.t 43)),
 o1 45 (.bin .gtr (.t 44) (.c (.i .i64 1))),
 mv 46 45,
 ⟨(some 47),.move (.t 6),some (46,true)⟩,
 ⟨(some 48),.ixStr (.t 47) (.c (.i .i64 0)),some (46,true)⟩,
 ⟨(some 49),.bin .eql (.t 48) (.c (.i .u8 48)),some (46,true)⟩,
 o1 50 (.pick (.t 46) (.t 49) (.c (.b false)))] [1,2,3,4,6,50])
 (.cond (.t 50)
 (.skip)
 (.exit 4)))
 (.block 5 (.reg [mv 51 6,
 o1 52 (.slS (.t 51) (some (.c (.i .i64 1))) none),
 mv 6 52] [1,2,3,4,6]))
def l12_2:C :=
 .seq
 (.seq
 (.reg [mv 10 4,
 o1 11 (.bin .lss (.t 10) (.c (.i .i64 2)))] [1,2,3,4,11])
 (.cond (.t 11)
 (.skip)
 (.exit 0)))
 (.seq
 (.block 1 (.seq
 (.reg [mv 14 4,
 o1 15 (.bin .mul (.c (.i .i64 2)) (.t 14)),
 o1 16 (.bin .add (.t 15) (.c (.i .i64 1))),
 o1 17 (.ixA 4 1 (.t 1) (.t 16)),
 o1 18 (.load false 1 (.t 17)),
 o1 19 (.call false (.f 44) [(.t 18),(.c (.i .i64 100))]),
 o1 20 (.bin .add (.c (.i .i64 1)) (.t 19)),
 mv 5 20] [1,2,3,4,5])
 (.seq
 (.reg [o1 6 (.move (.c (.s [])))] [1,2,3,4,5,6])
 (.seq
 (.reg [mv 21 4,
 o1 22 (.bin .mul (.c (.i .i64 2)) (.t 21)),
 o1 23 (.ixA 4 1 (.t 1) (.t 22)),
 o1 24 (.load false 1 (.t 23)),
 o1 25 (.call false (.f 44) [(.t 24),(.c (.i .i64 1000000007))]),
 mv 7 25] [1,2,3,4,5,6,7])
 (.seq
 (.block 2 (.loop l12_0))
 (.seq
 (.block 4 (.loop l12_1))
 (.reg [mv 53 4,
 mv 54 6,
 o1 55 (.ixA 2 1 (.t 3) (.t 53)),
 ⟨none,.store 1 (.t 55) (.t 54),none⟩] [1,2,3,4])))))))
 (.reg [mv 12 4,
 o1 13 (.bin .add (.t 12) (.c (.i .i64 1))),
 mv 4 13] [1,2,3,4]))
def b12:C :=
 .seq
 (.reg [o1 1 (.box 22 (.t 0)),
 o1 2 (.alloc 26 [(.s []),(.s [])])] [1,2])
 (.seq
 (.reg [o1 3 (.alloc 65 [(.s []),(.s [])])] [1,2,3])
 (.seq
 (.seq
 (.reg [o1 4 (.move (.c (.i .i64 0)))] [1,2,3,4])
 (.block 0 (.loop l12_2)))
 (.seq
 (.seq
 (.reg [o1 56 (.ixA 2 1 (.t 3) (.c (.i .i64 1))),
 o1 57 (.load false 1 (.t 56)),
 o1 58 (.bin .eql (.t 57) (.c (.s [48])))] [1,2,3,58])
 (.cond (.t 58)
 (.reg [o1 59 (.ixA 2 1 (.t 3) (.c (.i .i64 1))),
 ⟨none,.store 1 (.t 59) (.c (.s [55])),none⟩] [1,2,3])
 (.skip)))
 (.seq
 (.seq
 (.reg [o1 60 (.ixA 4 1 (.t 1) (.c (.i .i64 0))),
 o1 61 (.load false 1 (.t 60)),
 o1 62 (.call false (.f 44) [(.t 61),(.c (.i .i64 2))]),
 o1 63 (.bin .eql (.t 62) (.c (.i .i64 0))),
 mv 64 63,
 ⟨(some 65),.ixA 2 1 (.t 3) (.c (.i .i64 0)),some (64,true)⟩,
 ⟨(some 66),.load false 1 (.t 65),some (64,true)⟩,
 ⟨(some 67),.bin .neq (.t 66) (.c (.s [48])),some (64,true)⟩,
 o1 68 (.pick (.t 64) (.t 67) (.c (.b false)))] [2,3,68])
 (.cond (.t 68)
 (.reg [o1 69 (.ixA 2 1 (.t 3) (.c (.i .i64 0))),
 o1 70 (.load false 1 (.t 69)),
 o1 71 (.bin .add (.c (.s [45])) (.t 70)),
 o1 72 (.ixA 2 1 (.t 3) (.c (.i .i64 0))),
 ⟨none,.store 1 (.t 72) (.t 71),none⟩] [2,3])
 (.skip)))
 (.seq
 (.reg [o1 74 (.ixA 2 1 (.t 3) (.c (.i .i64 0))),
 o1 75 (.load false 1 (.t 74)),
 o1 76 (.ixA 2 1 (.t 3) (.c (.i .i64 1))),
 o1 77 (.load false 1 (.t 76)),
 o1 78 (.call false (.f 45) [(.t 75),(.t 77)]),
 mv 73 78,
 o1 79 (.ext (.t 73) 0),
 o1 80 (.ext (.t 73) 1),
 o1 8 (.alloc 26 [(.s []),(.s [])]),
 ⟨none,.store 2 (.t 8) (.t 79),none⟩,
 mv 9 80] [2,8])
 (.seq
 (.reg [o1 81 (.load true 2 (.t 8)),
 ⟨none,.store 2 (.t 2) (.t 81),none⟩] [2])
 (.ret)))))))
def c12:SF:=⟨82,[.cell 2 true 2],b12,none⟩
def h13:Hints:=⟨[(0,[2,3]),(1,[2,3,20]),(2,[4]),(3,[2,3,5]),(4,[2,3,5,6,7]),(5,[2,3,5,6,7,9,10]),(6,[2,3,5,7,10,12]),(7,[2,3,5,7,10,12,42]),(9,[2,3,5,7,10,48]),(11,[2,3,5,7,10,55]),(13,[2,3,5,7,10,60]),(14,[4]),(12,[4]),(10,[4]),(8,[4]),(15,[2,3,5])],[]⟩
def b13:C :=
 .seq
 (.reg [o1 2 (.box 26 (.t 0)),
 o1 3 (.box 26 (.t 1)),
 o1 4 (.move (.c (.i .i64 0)))] [2,3])
 (.scope (.seq
 (.seq
 (.reg [o1 13 (.load true 2 (.t 2)),
 o1 14 (.call false (.f 46) [(.t 13)]),
 o1 15 (.un .not (.t 14)),
 mv 16 15,
 ⟨(some 17),.load true 2 (.t 3),some (16,false)⟩,
 ⟨(some 18),.call false (.f 46) [(.t 17)],some (16,false)⟩,
 ⟨(some 19),.un .not (.t 18),some (16,false)⟩,
 o1 20 (.pick (.t 16) (.c (.b true)) (.t 19))] [2,3,20])
 (.cond (.t 20)
 (.seq
 (.reg [o1 4 (.move (.c (.i .i64 0)))] [4])
 (.ret))
 (.skip)))
 (.seq
 (.reg [o1 5 (.move (.c (.i .i64 1)))] [2,3,5])
 (.seq
 (.label 0)
 (.seq
 (.reg [o1 22 (.fieldAddr 0 (.t 2)),
 o1 23 (.load false 1 (.t 22)),
 o1 24 (.fieldAddr 1 (.t 2)),
 o1 25 (.load false 1 (.t 24)),
 o1 26 (.call false (.f 47) [(.t 23),(.t 25)]),
 mv 21 26,
 o1 27 (.ext (.t 21) 0),
 o1 28 (.ext (.t 21) 1),
 o1 29 (.ext (.t 21) 2),
 mv 6 27,
 mv 7 28,
 mv 8 29] [2,3,5,6,7])
 (.seq
 (.reg [o1 31 (.fieldAddr 0 (.t 3)),
 o1 32 (.load false 1 (.t 31)),
 o1 33 (.fieldAddr 1 (.t 3)),
 o1 34 (.load false 1 (.t 33)),
 o1 35 (.call false (.f 47) [(.t 32),(.t 34)]),
 mv 30 35,
 o1 36 (.ext (.t 30) 0),
 o1 37 (.ext (.t 30) 1),
 o1 38 (.ext (.t 30) 2),
 mv 9 36,
 mv 10 37,
 mv 11 38] [2,3,5,6,7,9,10])
 (.seq
 (.seq
 (.reg [mv 39 6,
 mv 40 9,
 o1 41 (.call false (.f 48) [(.t 39),(.t 40)]),
 mv 12 41] [2,3,5,7,10,12])
 (.block 0 (.seq
 (.reg [mv 43 12,
 o1 44 (.bin .neq (.t 43) (.c (.i .i64 0))),
 mv 42 44] [2,3,5,7,10,12,42])
 (.cond (.t 42)
 (.seq
 (.reg [mv 45 5,
 mv 46 12,
 o1 47 (.bin .mul (.t 45) (.t 46)),
 mv 4 47] [4])
 (.ret))
 (.seq
 (.reg [mv 49 7,
 o1 50 (.bin .eql (.t 49) (.c (.s [48]))),
 mv 51 50,
 ⟨(some 52),.move (.t 10),some (51,true)⟩,
 ⟨(some 53),.bin .eql (.t 52) (.c (.s [48])),some (51,true)⟩,
 o1 54 (.pick (.t 51) (.t 53) (.c (.b false))),
 mv 48 54] [2,3,5,7,10,48])
 (.cond (.t 48)
 (.seq
 (.reg [o1 4 (.move (.c (.i .i64 0)))] [4])
 (.ret))
 (.seq
 (.reg [mv 56 7,
 o1 57 (.bin .eql (.t 56) (.c (.s [48]))),
 mv 55 57] [2,3,5,7,10,55])
 (.cond (.t 55)
 (.seq
 (.reg [mv 58 5,
 o1 59 (.un .neg (.t 58)),
 mv 4 59] [4])
 (.ret))
 (.seq
 (.reg [mv 61 10,
 o1 62 (.bin .eql (.t 61) (.c (.s [48]))),
 mv 60 62] [2,3,5,7,10,60])
 (.cond (.t 60)
 (.seq
 (.reg [mv 63 5,
 mv 4 63] [4])
 (.ret))
 (.skip)))))))))))
 (.seq
 (.draw [⟨0,o1 64 (.fieldAddr 1 (.t 2)),0,[]⟩,
 ⟨1,o1 65 (.load false 1 (.t 64)),0,[]⟩,
 ⟨2,mv 66 7,0,[]⟩,
 ⟨3,o1 67 (.build [(.s []),(.s [])] [(0,1,(.t 65)),(1,1,(.t 66))]),0,[]⟩,
 ⟨4,o1 68 (.fieldAddr 1 (.t 3)),0,[]⟩,
 ⟨5,o1 69 (.load false 1 (.t 68)),0,[]⟩,
 ⟨6,mv 70 10,0,[]⟩,
 ⟨7,o1 71 (.build [(.s []),(.s [])] [(0,1,(.t 69)),(1,1,(.t 70))]),0,[]⟩,
 ⟨8,mv 72 5,0,[]⟩,
 ⟨9,o1 73 (.un .neg (.t 72)),0,[]⟩,
 ⟨10,⟨none,.store 2 (.t 2) (.t 67),none⟩,1,[5]⟩,
 ⟨11,⟨none,.store 2 (.t 3) (.t 71),none⟩,1,[]⟩,
 ⟨12,mv 5 73,0,[]⟩] [2,3,5])
 (.goto 0)))))))))
def c13:SF:=⟨74,[.t 4],b13,none⟩
def h14:Hints:=⟨[(0,[2,3,4]),(1,[4,5])],[]⟩
def b14:C :=
 .seq
 (.reg [o1 2 (.box 29 (.t 0)),
 o1 3 (.box 3 (.t 1)),
 o1 4 (.alloc 29 [(.s []),(.s []),(.s []),(.s [])]),
 o1 5 (.move (.c (.i .i64 0)))] [2,3,4])
 (.seq
 (.reg [o1 6 (.mkF 50 [] [(.t 2),(.t 3)]),
 o1 7 (.load true 4 (.t 2)),
 o1 8 (.bslice false 29 4 [(.s []),(.s []),(.s []),(.s [])] 1 [(0,(.t 7))]),
 o1 9 (.call false (.f 49) [(.t 6),(.t 8)]),
 o1 10 (.ext (.t 9) 0),
 o1 11 (.ext (.t 9) 1),
 ⟨none,.store 4 (.t 4) (.t 10),none⟩,
 mv 5 11] [4,5])
 (.ret))
def c14:SF:=⟨12,[.cell 4 true 4,.t 5],b14,none⟩
def h15:Hints:=⟨[(0,[2,3]),(1,[4])],[]⟩
def b15:C :=
 .seq
 (.reg [o1 2 (.box 29 (.t 0)),
 o1 3 (.box 29 (.t 1)),
 o1 4 (.move (.c (.b false)))] [2,3])
 (.seq
 (.reg [o1 5 (.load true 4 (.t 2)),
 o1 6 (.call false (.f 35) [(.t 5)]),
 mv 7 6,
 ⟨(some 8),.load true 4 (.t 3),some (7,true)⟩,
 ⟨(some 9),.fieldAddr 0 (.t 2),some (7,true)⟩,
 ⟨(some 10),.load true 2 (.t 9),some (7,true)⟩,
 ⟨(some 11),.call false (.f 23) [(.t 8),(.t 10)],some (7,true)⟩,
 o1 12 (.pick (.t 7) (.t 11) (.c (.b false))),
 mv 13 12,
 ⟨(some 14),.load true 4 (.t 3),some (13,true)⟩,
 ⟨(some 15),.fieldAddr 2 (.t 2),some (13,true)⟩,
 ⟨(some 16),.load true 2 (.t 15),some (13,true)⟩,
 ⟨(some 17),.call false (.f 23) [(.t 14),(.t 16)],some (13,true)⟩,
 o1 18 (.pick (.t 13) (.t 17) (.c (.b false))),
 mv 4 18] [4])
 (.ret))
def c15:SF:=⟨19,[.t 4],b15,none⟩
def h16:Hints:=⟨[(0,[0,1,4]),(1,[4,5]),(2,[4])],[]⟩
def b16:C :=
 .seq
 (.reg [o1 4 (.alloc 26 [(.s []),(.s [])])] [0,1,4])
 (.seq
 (.reg [mv 8 0,
 mv 9 1,
 o1 10 (.call false (.f 54) [(.t 8),(.t 9)]),
 mv 7 10,
 o1 11 (.ext (.t 7) 0),
 o1 12 (.ext (.t 7) 1),
 o1 5 (.alloc 26 [(.s []),(.s [])]),
 ⟨none,.store 2 (.t 5) (.t 11),none⟩,
 mv 6 12] [4,5])
 (.seq
 (.reg [o1 13 (.load true 2 (.t 5)),
 ⟨none,.store 2 (.t 4) (.t 13),none⟩] [4])
 (.ret)))
def c16:SF:=⟨14,[.cell 4 true 2],b16,none⟩
def h17:Hints:=⟨[(0,[2,3,4]),(1,[2,3,4,6]),(2,[2,3,4,6]),(3,[2,3,4,6,7]),(4,[4,5])],[]⟩
def b17:C :=
 .seq
 (.reg [o1 2 (.box 26 (.t 0)),
 o1 3 (.box 26 (.t 1)),
 o1 4 (.alloc 26 [(.s []),(.s [])]),
 o1 5 (.move (.c (.i .i64 0)))] [2,3,4])
 (.seq
 (.reg [o1 8 (.build [(.b false)] []),
 o1 9 (.box 78 (.t 8)),
 mv 6 9] [2,3,4,6])
 (.seq
 (.reg [mv 10 6,
 o1 11 (.load true 2 (.t 2)),
 o1 12 (.load true 2 (.t 3)),
 o1 13 (.bslice false 26 2 [(.s []),(.s [])] 2 [(0,(.t 11)),(1,(.t 12))]),
 o1 14 (.call false (.f 55) [(.t 10),(.t 13)])] [2,3,4,6])
 (.seq
 (.reg [mv 15 6,
 o1 16 (.fieldAddr 0 (.t 2)),
 o1 17 (.load false 1 (.t 16)),
 o1 18 (.fieldAddr 1 (.t 3)),
 o1 19 (.load false 1 (.t 18)),
 o1 20 (.call false (.f 56) [(.t 15),(.t 17),(.t 19)]),
 mv 7 20] [2,3,4,6,7])
 (.seq
 (.reg [mv 21 6,
 mv 22 7,
 mv 23 6,
 o1 24 (.fieldAddr 1 (.t 2)),
 o1 25 (.load false 1 (.t 24)),
 o1 26 (.fieldAddr 0 (.t 3)),
 o1 27 (.load false 1 (.t 26)),
 o1 28 (.call false (.f 56) [(.t 23),(.t 25),(.t 27)]),
 o1 29 (.call false (.f 57) [(.t 21),(.t 22),(.t 28)]),
 o1 30 (.ext (.t 29) 0),
 o1 31 (.ext (.t 29) 1),
 ⟨none,.store 2 (.t 4) (.t 30),none⟩,
 mv 5 31] [4,5])
 (.ret)))))
def c17:SF:=⟨32,[.cell 4 true 2,.t 5],b17,none⟩
def h18:Hints:=⟨[(0,[2,3,4]),(1,[4,5])],[]⟩
def b18:C :=
 .seq
 (.reg [o1 2 (.box 26 (.t 0)),
 o1 3 (.box 26 (.t 1)),
 o1 4 (.alloc 26 [(.s []),(.s [])]),
 o1 5 (.move (.c (.i .i64 0)))] [2,3,4])
 (.seq
 (.reg [o1 6 (.load true 2 (.t 2)),
 o1 7 (.load true 2 (.t 3)),
 o1 8 (.call false (.f 58) [(.f 59),(.t 6),(.t 7)]),
 o1 9 (.ext (.t 8) 0),
 o1 10 (.ext (.t 8) 1),
 ⟨none,.store 2 (.t 4) (.t 9),none⟩,
 mv 5 10] [4,5])
 (.ret))
def c18:SF:=⟨11,[.cell 4 true 2,.t 5],b18,none⟩
def h19:Hints:=⟨[(0,[1,2]),(1,[1,2,3]),(2,[2,3,4]),(3,[2])],[]⟩
def b19:C :=
 .seq
 (.reg [o1 1 (.box 22 (.t 0)),
 o1 2 (.alloc 29 [(.s []),(.s []),(.s []),(.s [])])] [1,2])
 (.seq
 (.reg [o1 5 (.ixA 4 1 (.t 1) (.c (.i .i64 0))),
 o1 6 (.load false 1 (.t 5)),
 o1 7 (.ixA 4 1 (.t 1) (.c (.i .i64 1))),
 o1 8 (.load false 1 (.t 7)),
 o1 9 (.build [(.i .i64 0),(.i .i64 0)] [(0,1,(.t 6)),(1,1,(.t 8))]),
 o1 10 (.call false (.f 25) [(.t 9)]),
 o1 3 (.alloc 26 [(.s []),(.s [])]),
 ⟨none,.store 2 (.t 3) (.t 10),none⟩] [1,2,3])
 (.seq
 (.reg [o1 11 (.ixA 4 1 (.t 1) (.c (.i .i64 2))),
 o1 12 (.load false 1 (.t 11)),
 o1 13 (.ixA 4 1 (.t 1) (.c (.i .i64 3))),
 o1 14 (.load false 1 (.t 13)),
 o1 15 (.build [(.i .i64 0),(.i .i64 0)] [(0,1,(.t 12)),(1,1,(.t 14))]),
 o1 16 (.call false (.f 25) [(.t 15)]),
 o1 4 (.alloc 26 [(.s []),(.s [])]),
 ⟨none,.store 2 (.t 4) (.t 16),none⟩] [2,3,4])
 (.seq
 (.draw [⟨0,o1 17 (.load true 2 (.t 3)),0,[]⟩,
 ⟨1,o1 18 (.load true 2 (.t 4)),0,[]⟩,
 ⟨3,o1 20 (.load true 2 (.t 3)),0,[]⟩,
 ⟨4,o1 21 (.load true 2 (.t 4)),0,[]⟩,
 ⟨2,o1 19 (.call false (.f 60) [(.t 17),(.t 18)]),1,[4,3]⟩,
 ⟨5,o1 22 (.call false (.f 61) [(.t 20),(.t 21)]),1,[]⟩,
 ⟨6,o1 23 (.build [(.s []),(.s []),(.s []),(.s [])] [(0,2,(.t 19)),(2,2,(.t 22))]),0,[]⟩,
 ⟨7,⟨none,.store 4 (.t 2) (.t 23),none⟩,1,[]⟩] [2])
 (.ret))))
def c19:SF:=⟨24,[.cell 2 true 4],b19,none⟩
def h21:Hints:=⟨[(0,[2,3,4]),(1,[2,3,4,6]),(2,[2,3,4,6]),(3,[2,3,4,6,7]),(4,[4,5])],[]⟩
def b21:C :=
 .seq
 (.reg [o1 2 (.box 26 (.t 0)),
 o1 3 (.box 26 (.t 1)),
 o1 4 (.alloc 26 [(.s []),(.s [])]),
 o1 5 (.move (.c (.i .i64 0)))] [2,3,4])
 (.seq
 (.reg [o1 8 (.build [(.b false)] []),
 o1 9 (.box 78 (.t 8)),
 mv 6 9] [2,3,4,6])
 (.seq
 (.reg [mv 10 6,
 o1 11 (.load true 2 (.t 2)),
 o1 12 (.load true 2 (.t 3)),
 o1 13 (.bslice false 26 2 [(.s []),(.s [])] 2 [(0,(.t 11)),(1,(.t 12))]),
 o1 14 (.call false (.f 55) [(.t 10),(.t 13)])] [2,3,4,6])
 (.seq
 (.reg [mv 15 6,
 o1 16 (.fieldAddr 0 (.t 2)),
 o1 17 (.load false 1 (.t 16)),
 o1 18 (.fieldAddr 0 (.t 3)),
 o1 19 (.load false 1 (.t 18)),
 o1 20 (.call false (.f 56) [(.t 15),(.t 17),(.t 19)]),
 mv 7 20] [2,3,4,6,7])
 (.seq
 (.reg [mv 21 6,
 mv 22 7,
 mv 23 6,
 o1 24 (.fieldAddr 1 (.t 2)),
 o1 25 (.load false 1 (.t 24)),
 o1 26 (.fieldAddr 1 (.t 3)),
 o1 27 (.load false 1 (.t 26)),
 o1 28 (.call false (.f 56) [(.t 23),(.t 25),(.t 27)]),
 o1 29 (.call false (.f 57) [(.t 21),(.t 22),(.t 28)]),
 o1 30 (.ext (.t 29) 0),
 o1 31 (.ext (.t 29) 1),
 ⟨none,.store 2 (.t 4) (.t 30),none⟩,
 mv 5 31] [4,5])
 (.ret)))))
def c21:SF:=⟨32,[.cell 4 true 2,.t 5],b21,none⟩
def h22:Hints:=⟨[(0,[2,3,4]),(1,[4,5])],[]⟩
def b22:C :=
 .seq
 (.reg [o1 2 (.box 29 (.t 0)),
 o1 3 (.box 3 (.t 1)),
 o1 4 (.alloc 29 [(.s []),(.s []),(.s []),(.s [])]),
 o1 5 (.move (.c (.i .i64 0)))] [2,3,4])
 (.seq
 (.reg [o1 6 (.mkF 65 [] [(.t 3),(.t 2)]),
 o1 7 (.load true 4 (.t 2)),
 o1 8 (.bslice false 29 4 [(.s []),(.s []),(.s []),(.s [])] 1 [(0,(.t 7))]),
 o1 9 (.call false (.f 49) [(.t 6),(.t 8)]),
 o1 10 (.ext (.t 9) 0),
 o1 11 (.ext (.t 9) 1),
 ⟨none,.store 4 (.t 4) (.t 10),none⟩,
 mv 5 11] [4,5])
 (.ret))
def c22:SF:=⟨12,[.cell 4 true 4,.t 5],b22,none⟩
def h23:Hints:=⟨[(0,[2,3]),(1,[4])],[]⟩
def b23:C :=
 .seq
 (.reg [o1 2 (.box 29 (.t 0)),
 o1 3 (.box 26 (.t 1)),
 o1 4 (.move (.c (.b false)))] [2,3])
 (.seq
 (.reg [o1 5 (.load true 4 (.t 2)),
 o1 6 (.call false (.f 35) [(.t 5)]),
 mv 7 6,
 ⟨(some 8),.load true 2 (.t 3),some (7,true)⟩,
 ⟨(some 9),.call false (.f 46) [(.t 8)],some (7,true)⟩,
 o1 10 (.pick (.t 7) (.t 9) (.c (.b false))),
 mv 11 10,
 ⟨(some 12),.fieldAddr 0 (.t 2),some (11,true)⟩,
 ⟨(some 13),.load true 2 (.t 12),some (11,true)⟩,
 ⟨(some 14),.load true 2 (.t 3),some (11,true)⟩,
 ⟨(some 15),.call false (.f 13) [(.t 13),(.t 14)],some (11,true)⟩,
 ⟨(some 16),.bin .leq (.t 15) (.c (.i .i64 0)),some (11,true)⟩,
 o1 17 (.pick (.t 11) (.t 16) (.c (.b false))),
 mv 18 17,
 ⟨(some 19),.load true 2 (.t 3),some (18,true)⟩,
 ⟨(some 20),.fieldAddr 2 (.t 2),some (18,true)⟩,
 ⟨(some 21),.load true 2 (.t 20),some (18,true)⟩,
 ⟨(some 22),.call false (.f 13) [(.t 19),(.t 21)],some (18,true)⟩,
 ⟨(some 23),.bin .leq (.t 22) (.c (.i .i64 0)),some (18,true)⟩,
 o1 24 (.pick (.t 18) (.t 23) (.c (.b false))),
 mv 4 24] [4])
 (.ret))
def c23:SF:=⟨25,[.t 4],b23,none⟩
def h24:Hints:=⟨[(0,[2,3,4]),(1,[4,5])],[]⟩
def b24:C :=
 .seq
 (.reg [o1 2 (.box 26 (.t 0)),
 o1 3 (.box 26 (.t 1)),
 o1 4 (.alloc 26 [(.s []),(.s [])]),
 o1 5 (.move (.c (.i .i64 0)))] [2,3,4])
 (.seq
 (.reg [o1 6 (.load true 2 (.t 2)),
 o1 7 (.load true 2 (.t 3)),
 o1 8 (.call false (.f 58) [(.f 71),(.t 6),(.t 7)]),
 o1 9 (.ext (.t 8) 0),
 o1 10 (.ext (.t 8) 1),
 ⟨none,.store 2 (.t 4) (.t 9),none⟩,
 mv 5 10] [4,5])
 (.ret))
def c24:SF:=⟨11,[.cell 4 true 2,.t 5],b24,none⟩
def h25:Hints:=⟨[(0,[1,2]),(1,[2,3]),(2,[2])],[]⟩
def b25:C :=
 .seq
 (.reg [o1 1 (.box 43 (.t 0)),
 o1 2 (.alloc 26 [(.s []),(.s [])])] [1,2])
 (.seq
 (.draw [⟨0,o1 6 (.ixA 2 1 (.t 1) (.c (.i .i64 0))),0,[]⟩,
 ⟨1,o1 7 (.load false 1 (.t 6)),0,[]⟩,
 ⟨4,o1 10 (.ixA 2 1 (.t 1) (.c (.i .i64 1))),0,[]⟩,
 ⟨5,o1 11 (.load false 1 (.t 10)),0,[]⟩,
 ⟨2,o1 8 (.call false (.f 44) [(.t 7),(.c (.i .i64 1999))]),1,[5]⟩,
 ⟨3,o1 9 (.bin .sub (.t 8) (.c (.i .i64 999))),0,[]⟩,
 ⟨6,o1 12 (.call false (.f 44) [(.t 11),(.c (.i .i64 60))]),1,[]⟩,
 ⟨7,o1 13 (.bin .add (.c (.i .i64 1)) (.t 12)),0,[]⟩,
 ⟨8,o1 14 (.call false (.f 54) [(.t 9),(.t 13)]),1,[]⟩,
 ⟨9,mv 5 14,0,[]⟩,
 ⟨10,o1 15 (.ext (.t 5) 0),0,[]⟩,
 ⟨11,o1 16 (.ext (.t 5) 1),0,[]⟩,
 ⟨12,o1 3 (.alloc 26 [(.s []),(.s [])]),2,[]⟩,
 ⟨13,⟨none,.store 2 (.t 3) (.t 15),none⟩,1,[]⟩,
 ⟨14,mv 4 16,0,[]⟩] [2,3])
 (.seq
 (.reg [o1 17 (.load true 2 (.t 3)),
 ⟨none,.store 2 (.t 2) (.t 17),none⟩] [2])
 (.ret)))
def c25:SF:=⟨18,[.cell 2 true 2],b25,none⟩
def h26:Hints:=⟨[(0,[2,3,4]),(1,[4,5])],[]⟩
def b26:C :=
 .seq
 (.reg [o1 2 (.box 29 (.t 0)),
 o1 3 (.box 29 (.t 1)),
 o1 4 (.alloc 29 [(.s []),(.s []),(.s []),(.s [])]),
 o1 5 (.move (.c (.i .i64 0)))] [2,3,4])
 (.seq
 (.reg [o1 6 (.mkF 73 [] [(.t 2),(.t 3)]),
 o1 7 (.load true 4 (.t 2)),
 o1 8 (.load true 4 (.t 3)),
 o1 9 (.bslice false 29 4 [(.s []),(.s []),(.s []),(.s [])] 2 [(0,(.t 7)),(1,(.t 8))]),
 o1 10 (.call false (.f 49) [(.t 6),(.t 9)]),
 o1 11 (.ext (.t 10) 0),
 o1 12 (.ext (.t 10) 1),
 ⟨none,.store 4 (.t 4) (.t 11),none⟩,
 mv 5 12] [4,5])
 (.ret))
def c26:SF:=⟨13,[.cell 4 true 4,.t 5],b26,none⟩
def h27:Hints:=⟨[(0,[2,3,4]),(1,[4,5])],[]⟩
def b27:C :=
 .seq
 (.reg [o1 2 (.box 29 (.t 0)),
 o1 3 (.box 29 (.t 1)),
 o1 4 (.alloc 29 [(.s []),(.s []),(.s []),(.s [])]),
 o1 5 (.move (.c (.i .i64 0)))] [2,3,4])
 (.seq
 (.reg [o1 6 (.mkF 75 [] [(.t 2),(.t 3)]),
 o1 7 (.load true 4 (.t 2)),
 o1 8 (.load true 4 (.t 3)),
 o1 9 (.bslice false 29 4 [(.s []),(.s []),(.s []),(.s [])] 2 [(0,(.t 7)),(1,(.t 8))]),
 o1 10 (.call false (.f 49) [(.t 6),(.t 9)]),
 o1 11 (.ext (.t 10) 0),
 o1 12 (.ext (.t 10) 1),
 ⟨none,.store 4 (.t 4) (.t 11),none⟩,
 mv 5 12] [4,5])
 (.ret))
def c27:SF:=⟨13,[.cell 4 true 4,.t 5],b27,none⟩
def h28:Hints:=⟨[(0,[1,2]),(1,[2])],[]⟩
def b28:C :=
 .seq
 (.reg [o1 1 (.box 29 (.t 0)),
 o1 2 (.alloc 29 [(.s []),(.s []),(.s []),(.s [])])] [1,2])
 (.seq
 (.draw [⟨0,o1 3 (.fieldAddr 0 (.t 1)),0,[]⟩,
 ⟨1,o1 4 (.fieldAddr 0 (.t 3)),0,[]⟩,
 ⟨2,o1 5 (.load false 1 (.t 4)),0,[]⟩,
 ⟨4,o1 7 (.fieldAddr 0 (.t 1)),0,[]⟩,
 ⟨5,o1 8 (.fieldAddr 1 (.t 7)),0,[]⟩,
 ⟨6,o1 9 (.load false 1 (.t 8)),0,[]⟩,
 ⟨9,o1 12 (.fieldAddr 2 (.t 1)),0,[]⟩,
 ⟨10,o1 13 (.fieldAddr 0 (.t 12)),0,[]⟩,
 ⟨11,o1 14 (.load false 1 (.t 13)),0,[]⟩,
 ⟨13,o1 16 (.fieldAddr 2 (.t 1)),0,[]⟩,
 ⟨14,o1 17 (.fieldAddr 1 (.t 16)),0,[]⟩,
 ⟨15,o1 18 (.load false 1 (.t 17)),0,[]⟩,
 ⟨3,o1 6 (.call false (.f 76) [(.t 5)]),1,[15,11,6]⟩,
 ⟨7,o1 10 (.call false (.f 76) [(.t 9)]),1,[15,11]⟩,
 ⟨8,o1 11 (.build [(.s []),(.s [])] [(0,1,(.t 6)),(1,1,(.t 10))]),0,[]⟩,
 ⟨12,o1 15 (.call false (.f 76) [(.t 14)]),1,[15]⟩,
 ⟨16,o1 19 (.call false (.f 76) [(.t 18)]),1,[]⟩,
 ⟨17,o1 20 (.build [(.s []),(.s [])] [(0,1,(.t 15)),(1,1,(.t 19))]),0,[]⟩,
 ⟨18,o1 21 (.build [(.s []),(.s []),(.s []),(.s [])] [(0,2,(.t 11)),(2,2,(.t 20))]),0,[]⟩,
 ⟨19,⟨none,.store 4 (.t 2) (.t 21),none⟩,1,[]⟩] [2])
 (.ret))
def c28:SF:=⟨22,[.cell 2 true 4],b28,none⟩
def h29:Hints:=⟨[(0,[2,3,4]),(1,[4,6,7,8,9]),(2,[4,6,7,8,21]),(3,[4,5]),(4,[4,8,10,11]),(5,[4,8,10,30]),(6,[4,5]),(7,[4,5])],[]⟩
def b29:C :=
 .seq
 (.reg [o1 2 (.box 26 (.t 0)),
 o1 3 (.box 26 (.t 1)),
 o1 4 (.alloc 26 [(.s []),(.s [])]),
 o1 5 (.move (.c (.i .i64 0)))] [2,3,4])
 (.seq
 (.reg [o1 13 (.load true 2 (.t 2)),
 o1 14 (.load true 2 (.t 3)),
 o1 15 (.call false (.f 77) [(.t 13),(.t 14)]),
 mv 12 15,
 o1 16 (.ext (.t 12) 0),
 o1 17 (.ext (.t 12) 1),
 o1 18 (.ext (.t 12) 2),
 o1 19 (.ext (.t 12) 3),
 mv 6 16,
 mv 7 17,
 mv 8 18,
 mv 9 19] [4,6,7,8,9])
 (.seq
 (.seq
 (.reg [mv 20 9,
 o1 21 (.un .not (.t 20))] [4,6,7,8,21])
 (.cond (.t 21)
 (.seq
 (.reg [o1 22 (.build [(.s []),(.s [])] []),
 ⟨none,.store 2 (.t 4) (.t 22),none⟩,
 o1 5 (.move (.c (.i .i64 40)))] [4,5])
 (.ret))
 (.skip)))
 (.seq
 (.reg [mv 24 6,
 mv 25 7,
 o1 26 (.call false (.f 78) [(.t 24),(.t 25)]),
 mv 23 26,
 o1 27 (.ext (.t 23) 0),
 o1 28 (.ext (.t 23) 1),
 mv 10 27,
 mv 11 28] [4,8,10,11])
 (.seq
 (.seq
 (.reg [mv 29 11,
 o1 30 (.bin .neq (.t 29) (.c (.i .i64 0)))] [4,8,10,30])
 (.cond (.t 30)
 (.seq
 (.reg [o1 31 (.build [(.s []),(.s [])] []),
 ⟨none,.store 2 (.t 4) (.t 31),none⟩,
 o1 5 (.move (.c (.i .i64 40)))] [4,5])
 (.ret))
 (.skip)))
 (.seq
 (.reg [mv 32 10,
 mv 33 8,
 o1 34 (.call false (.f 45) [(.t 32),(.t 33)]),
 o1 35 (.ext (.t 34) 0),
 o1 36 (.ext (.t 34) 1),
 ⟨none,.store 2 (.t 4) (.t 35),none⟩,
 mv 5 36] [4,5])
 (.ret))))))
def c29:SF:=⟨37,[.cell 4 true 2,.t 5],b29,none⟩
def h30:Hints:=⟨[(0,[1]),(1,[1,3]),(2,[1,3,4]),(3,[1,24]),(4,[2]),(5,[5,6]),(6,[2])],[]⟩
def b30:C :=
 .seq
 (.reg [o1 1 (.box 26 (.t 0)),
 o1 2 (.move (.c (.b false)))] [1])
 (.seq
 (.reg [o1 7 (.fieldAddr 0 (.t 1)),
 o1 8 (.load false 1 (.t 7)),
 o1 9 (.call false (.f 79) [(.t 8)]),
 mv 3 9] [1,3])
 (.seq
 (.reg [o1 10 (.fieldAddr 1 (.t 1)),
 o1 11 (.load false 1 (.t 10)),
 o1 12 (.call false (.f 79) [(.t 11)]),
 mv 4 12] [1,3,4])
 (.seq
 (.seq
 (.reg [mv 13 3,
 o1 14 (.un .not (.t 13)),
 mv 15 14,
 ⟨(some 16),.move (.t 4),some (15,false)⟩,
 ⟨(some 17),.un .not (.t 16),some (15,false)⟩,
 o1 18 (.pick (.t 15) (.c (.b true)) (.t 17)),
 mv 19 18,
 ⟨(some 20),.fieldAddr 1 (.t 1),some (19,false)⟩,
 ⟨(some 21),.load false 1 (.t 20),some (19,false)⟩,
 ⟨(some 22),.call false (.f 80) [(.t 21),(.c (.s [48]))],some (19,false)⟩,
 ⟨(some 23),.bin .leq (.t 22) (.c (.i .i64 0)),some (19,false)⟩,
 o1 24 (.pick (.t 19) (.c (.b true)) (.t 23))] [1,24])
 (.cond (.t 24)
 (.seq
 (.reg [o1 2 (.move (.c (.b false)))] [2])
 (.ret))
 (.skip)))
 (.seq
 (.reg [o1 26 (.fieldAddr 0 (.t 1)),
 o1 27 (.load false 1 (.t 26)),
 o1 28 (.fieldAddr 1 (.t 1)),
 o1 29 (.load false 1 (.t 28)),
 o1 30 (.call false (.f 81) [(.t 27),(.t 29)]),
 mv 25 30,
 o1 31 (.ext (.t 25) 0),
 o1 32 (.ext (.t 25) 1),
 mv 5 31,
 mv 6 32] [5,6])
 (.seq
 (.reg [mv 33 6,
 o1 34 (.bin .eql (.t 33) (.c (.i .i64 0))),
 mv 35 34,
 ⟨(some 36),.move (.t 5),some (35,true)⟩,
 ⟨(some 37),.bin .eql (.t 36) (.c (.s [49])),some (35,true)⟩,
 o1 38 (.pick (.t 35) (.t 37) (.c (.b false))),
 mv 2 38] [2])
 (.ret))))))
def c30:SF:=⟨39,[.t 2],b30,none⟩
def h31:Hints:=⟨[(0,[2,3,4]),(1,[2,3,4,8]),(2,[2,3,4,8,9]),(3,[2,3,4,8,9,10]),(4,[2,3,4,8,9,10,14]),(6,[2,3,4,8,9,10,11]),(7,[2,3,4,8,9,10,11]),(8,[2,3,4,8,9,10,11,18]),(10,[2,3,4,8,9,10,11,18,25]),(12,[2,3,4,8,9,10,11,18,33]),(14,[2,3,4,8,9,10,11,18,41]),(16,[2,3,4,8,9,10,11,18,49]),(18,[2,3,4,8,9,10,11,18,57]),(20,[2,3,4,8,9,10,11,18,65]),(22,[2,3,4,8,9,10,11,73]),(9,[2,3,4,8,9,10,11,12]),(23,[2,3,4,8,9,10,11,12]),(21,[2,3,4,8,9,10,11,12]),(19,[2,3,4,8,9,10,11,12]),(17,[2,3,4,8,9,10,11,12]),(15,[2,3,4,8,9,10,11,12]),(13,[2,3,4,8,9,10,11,12]),(11,[2,3,4,8,9,10,11,12]),(24,[2,3,4,8,9,10,12]),(25,[2,3,4,8,9,10]),(5,[2,3,4,8,9,10]),(26,[6,7])],[(0,2),(0,3),(1,0),(2,0)]⟩
def l31_0:C :=
 .seq
 (.seq
 (.reg [mv 13 10,
 o1 14 (.bin .lss (.t 13) (.c (.i .i64 8)))] [2,3,4,8,9,10,14])
 (.cond (.t 14)
 (.skip)
 (.exit 0)))
 (.seq
 (.block 1 (.seq
 (.reg [o1 17 (.build [(.s []),(.s []),(.s []),(.s [])] []),
 o1 11 (.alloc 29 [(.s []),(.s []),(.s []),(.s [])]),
 ⟨none,.store 4 (.t 11) (.t 17),none⟩] [2,3,4,8,9,10,11])
 (.seq
 (.reg [o1 12 (.move (.c (.i .i64 0)))] [2,3,4,8,9,10,11])
 (.seq
 (.seq
 (.reg [mv 18 10] [2,3,4,8,9,10,11,18])
 (.block 2 (.seq
 (.reg [o1 26 (.bin .eql (.t 18) (.c (.i .i64 0))),
 mv 25 26] [2,3,4,8,9,10,11,18,25])
 (.cond (.t 25)
 (.reg [o1 28 (.load true 4 (.t 3)),
 o1 29 (.load true 4 (.t 4)),
 o1 30 (.call false (.f 82) [(.t 28),(.t 29)]),
 mv 27 30,
 o1 31 (.ext (.t 27) 0),
 o1 32 (.ext (.t 27) 1),
 ⟨none,.store 4 (.t 11) (.t 31),none⟩,
 mv 12 32] [2,3,4,8,9,10,11,12])
 (.seq
 (.reg [o1 34 (.bin .eql (.t 18) (.c (.i .i64 1))),
 mv 33 34] [2,3,4,8,9,10,11,18,33])
 (.cond (.t 33)
 (.reg [o1 36 (.load true 4 (.t 3)),
 o1 37 (.load true 4 (.t 4)),
 o1 38 (.call false (.f 83) [(.t 36),(.t 37)]),
 mv 35 38,
 o1 39 (.ext (.t 35) 0),
 o1 40 (.ext (.t 35) 1),
 ⟨none,.store 4 (.t 11) (.t 39),none⟩,
 mv 12 40] [2,3,4,8,9,10,11,12])
 (.seq
 (.reg [o1 42 (.bin .eql (.t 18) (.c (.i .i64 2))),
 mv 41 42] [2,3,4,8,9,10,11,18,41])
 (.cond (.t 41)
 (.reg [o1 44 (.load true 4 (.t 3)),
 o1 45 (.load true 4 (.t 4)),
 o1 46 (.call false (.f 41) [(.t 44),(.t 45)]),
 mv 43 46,
 o1 47 (.ext (.t 43) 0),
 o1 48 (.ext (.t 43) 1),
 ⟨none,.store 4 (.t 11) (.t 47),none⟩,
 mv 12 48] [2,3,4,8,9,10,11,12])
 (.seq
 (.reg [o1 50 (.bin .eql (.t 18) (.c (.i .i64 3))),
 mv 49 50] [2,3,4,8,9,10,11,18,49])
 (.cond (.t 49)
 (.reg [o1 52 (.load true 4 (.t 3)),
 o1 53 (.load true 4 (.t 4)),
 o1 54 (.call false (.f 43) [(.t 52),(.t 53)]),
 mv 51 54,
 o1 55 (.ext (.t 51) 0),
 o1 56 (.ext (.t 51) 1),
 ⟨none,.store 4 (.t 11) (.t 55),none⟩,
 mv 12 56] [2,3,4,8,9,10,11,12])
 (.seq
 (.reg [o1 58 (.bin .eql (.t 18) (.c (.i .i64 4))),
 mv 57 58] [2,3,4,8,9,10,11,18,57])
 (.cond (.t 57)
 (.reg [o1 60 (.load true 4 (.t 3)),
 o1 61 (.load true 4 (.t 4)),
 o1 62 (.call false (.f 27) [(.t 60),(.t 61)]),
 mv 59 62,
 o1 63 (.ext (.t 59) 0),
 o1 64 (.ext (.t 59) 1),
 ⟨none,.store 4 (.t 11) (.t 63),none⟩,
 mv 12 64] [2,3,4,8,9,10,11,12])
 (.seq
 (.reg [o1 66 (.bin .eql (.t 18) (.c (.i .i64 5))),
 mv 65 66] [2,3,4,8,9,10,11,18,65])
 (.cond (.t 65)
 (.reg [o1 68 (.load true 4 (.t 3)),
 o1 69 (.load true 4 (.t 4)),
 o1 70 (.call false (.f 26) [(.t 68),(.t 69)]),
 mv 67 70,
 o1 71 (.ext (.t 67) 0),
 o1 72 (.ext (.t 67) 1),
 ⟨none,.store 4 (.t 11) (.t 71),none⟩,
 mv 12 72] [2,3,4,8,9,10,11,12])
 (.seq
 (.reg [o1 74 (.bin .eql (.t 18) (.c (.i .i64 6))),
 mv 73 74] [2,3,4,8,9,10,11,73])
 (.cond (.t 73)
 (.reg [o1 76 (.load true 4 (.t 3)),
 mv 77 2,
 o1 78 (.call false (.f 22) [(.t 76),(.t 77)]),
 mv 75 78,
 o1 79 (.ext (.t 75) 0),
 o1 80 (.ext (.t 75) 1),
 ⟨none,.store 4 (.t 11) (.t 79),none⟩,
 mv 12 80] [2,3,4,8,9,10,11,12])
 (.reg [o1 20 (.load true 4 (.t 3)),
 mv 21 2,
 o1 22 (.call false (.f 14) [(.t 20),(.t 21)]),
 mv 19 22,
 o1 23 (.ext (.t 19) 0),
 o1 24 (.ext (.t 19) 1),
 ⟨none,.store 4 (.t 11) (.t 23),none⟩,
 mv 12 24] [2,3,4,8,9,10,11,12])))))))))))))))))
 (.seq
 (.reg [mv 81 8,
 o1 82 (.load true 4 (.t 11)),
 o1 83 (.bslice false 29 4 [(.s []),(.s []),(.s []),(.s [])] 1 [(0,(.t 82))]),
 o1 84 (.app 29 4 64 (.t 81) (.t 83)),
 mv 8 84] [2,3,4,8,9,10,12])
 (.reg [mv 85 9,
 mv 86 12,
 o1 87 (.bslice false 31 1 [(.i .i64 0)] 1 [(0,(.t 86))]),
 o1 88 (.app 31 1 8 (.t 85) (.t 87)),
 mv 9 88] [2,3,4,8,9,10]))))))
 (.reg [mv 15 10,
 o1 16 (.bin .add (.t 15) (.c (.i .i64 1))),
 mv 10 16] [2,3,4,8,9,10]))
def b31:C :=
 .seq
 (.reg [o1 3 (.box 29 (.t 0)),
 o1 4 (.box 29 (.t 1)),
 o1 6 (.newGr 29 4),
 o1 7 (.newGr 31 1)] [2,3,4])
 (.seq
 (.reg [o1 8 (.newGr 29 4)] [2,3,4,8])
 (.seq
 (.reg [o1 9 (.newGr 31 1)] [2,3,4,8,9])
 (.seq
 (.seq
 (.reg [o1 10 (.move (.c (.i .i64 0)))] [2,3,4,8,9,10])
 (.block 0 (.loop l31_0)))
 (.seq
 (.reg [mv 89 8,
 mv 90 9,
 mv 6 89,
 mv 7 90] [6,7])
 (.ret)))))
def c31:SF:=⟨91,[.t 6,.t 7],b31,none⟩
def h32:Hints:=⟨[(0,[2,3,4]),(1,[2,3,4,8]),(2,[2,3,4,8,9]),(3,[2,3,4,8,9,10]),(4,[2,3,4,8,9,10,14]),(6,[2,3,4,8,9,10,11]),(7,[2,3,4,8,9,10,11]),(8,[2,3,4,8,9,10,11,18]),(10,[2,3,4,8,9,10,11,18,25]),(12,[2,3,4,8,9,10,11,18,33]),(14,[2,3,4,8,9,10,11,18,41]),(16,[2,3,4,8,9,10,11,18,49]),(18,[2,3,4,8,9,10,11,18,57]),(20,[2,3,4,8,9,10,11,18,65]),(22,[2,3,4,8,9,10,11,73]),(9,[2,3,4,8,9,10,11,12]),(23,[2,3,4,8,9,10,11,12]),(21,[2,3,4,8,9,10,11,12]),(19,[2,3,4,8,9,10,11,12]),(17,[2,3,4,8,9,10,11,12]),(15,[2,3,4,8,9,10,11,12]),(13,[2,3,4,8,9,10,11,12]),(11,[2,3,4,8,9,10,11,12]),(24,[2,3,4,8,9,10,12]),(25,[2,3,4,8,9,10]),(5,[2,3,4,8,9,10]),(26,[6,7])],[(0,2),(0,3),(1,0),(2,0)]⟩
def l32_0:C :=
 .seq
 (.seq
 (.reg [mv 13 10,
 o1 14 (.bin .lss (.t 13) (.c (.i .i64 8)))] [2,3,4,8,9,10,14])
 (.cond (.t 14)
 (.skip)
 (.exit 0)))
 (.seq
 (.block 1 (.seq
 (.reg [o1 17 (.build [(.s []),(.s []),(.s []),(.s [])] []),
 o1 11 (.alloc 29 [(.s []),(.s []),(.s []),(.s [])]),
 ⟨none,.store 4 (.t 11) (.t 17),none⟩] [2,3,4,8,9,10,11])
 (.seq
 (.reg [o1 12 (.move (.c (.i .i64 0)))] [2,3,4,8,9,10,11])
 (.seq
 (.seq
 (.reg [mv 18 10] [2,3,4,8,9,10,11,18])
 (.block 2 (.seq
 (.reg [o1 26 (.bin .eql (.t 18) (.c (.i .i64 0))),
 mv 25 26] [2,3,4,8,9,10,11,18,25])
 (.cond (.t 25)
 (.reg [o1 28 (.load true 4 (.t 3)),
 o1 29 (.load true 4 (.t 4)),
 o1 30 (.call false (.f 84) [(.t 28),(.t 29)]),
 mv 27 30,
 o1 31 (.ext (.t 27) 0),
 o1 32 (.ext (.t 27) 1),
 ⟨none,.store 4 (.t 11) (.t 31),none⟩,
 mv 12 32] [2,3,4,8,9,10,11,12])
 (.seq
 (.reg [o1 34 (.bin .eql (.t 18) (.c (.i .i64 1))),
 mv 33 34] [2,3,4,8,9,10,11,18,33])
 (.cond (.t 33)
 (.reg [o1 36 (.load true 4 (.t 3)),
 o1 37 (.load true 4 (.t 4)),
 o1 38 (.call false (.f 85) [(.t 36),(.t 37)]),
 mv 35 38,
 o1 39 (.ext (.t 35) 0),
 o1 40 (.ext (.t 35) 1),
 ⟨none,.store 4 (.t 11) (.t 39),none⟩,
 mv 12 40] [2,3,4,8,9,10,11,12])
 (.seq
 (.reg [o1 42 (.bin .eql (.t 18) (.c (.i .i64 2))),
 mv 41 42] [2,3,4,8,9,10,11,18,41])
 (.cond (.t 41)
 (.reg [o1 44 (.load true 4 (.t 3)),
 o1 45 (.load true 4 (.t 4)),
 o1 46 (.call false (.f 86) [(.t 44),(.t 45)]),
 mv 43 46,
 o1 47 (.ext (.t 43) 0),
 o1 48 (.ext (.t 43) 1),
 ⟨none,.store 4 (.t 11) (.t 47),none⟩,
 mv 12 48] [2,3,4,8,9,10,11,12])
 (.seq
 (.reg [o1 50 (.bin .eql (.t 18) (.c (.i .i64 3))),
 mv 49 50] [2,3,4,8,9,10,11,18,49])
 (.cond (.t 49)
 (.reg [o1 52 (.load true 4 (.t 3)),
 o1 53 (.load true 4 (.t 4)),
 o1 54 (.call false (.f 87) [(.t 52),(.t 53)]),
 mv 51 54,
 o1 55 (.ext (.t 51) 0),
 o1 56 (.ext (.t 51) 1),
 ⟨none,.store 4 (.t 11) (.t 55),none⟩,
 mv 12 56] [2,3,4,8,9,10,11,12])
 (.seq
 (.reg [o1 58 (.bin .eql (.t 18) (.c (.i .i64 4))),
 mv 57 58] [2,3,4,8,9,10,11,18,57])
 (.cond (.t 57)
 (.reg [o1 60 (.load true 4 (.t 3)),
 o1 61 (.load true 4 (.t 4)),
 o1 62 (.call false (.f 88) [(.t 60),(.t 61)]),
 mv 59 62,
 o1 63 (.ext (.t 59) 0),
 o1 64 (.ext (.t 59) 1),
 ⟨none,.store 4 (.t 11) (.t 63),none⟩,
 mv 12 64] [2,3,4,8,9,10,11,12])
 (.seq
 (.reg [o1 66 (.bin .eql (.t 18) (.c (.i .i64 5))),
 mv 65 66] [2,3,4,8,9,10,11,18,65])
 (.cond (.t 65)
 (.reg [o1 68 (.load true 4 (.t 3)),
 o1 69 (.load true 4 (.t 4)),
 o1 70 (.call false (.f 89) [(.t 68),(.t 69)]),
 mv 67 70,
 o1 71 (.ext (.t 67) 0),
 o1 72 (.ext (.t 67) 1),
 ⟨none,.store 4 (.t 11) (.t 71),none⟩,
 mv 12 72] [2,3,4,8,9,10,11,12])
 (.seq
 (.reg [o1 74 (.bin .eql (.t 18) (.c (.i .i64 6))),
 mv 73 74] [2,3,4,8,9,10,11,73])
 (.cond (.t 73)
 (.reg [o1 76 (.load true 4 (.t 3)),
 mv 77 2,
 o1 78 (.call false (.f 90) [(.t 76),(.t 77)]),
 mv 75 78,
 o1 79 (.ext (.t 75) 0),
 o1 80 (.ext (.t 75) 1),
 ⟨none,.store 4 (.t 11) (.t 79),none⟩,
 mv 12 80] [2,3,4,8,9,10,11,12])
 (.reg [o1 20 (.load true 4 (.t 3)),
 mv 21 2,
 o1 22 (.call false (.f 91) [(.t 20),(.t 21)]),
 mv 19 22,
 o1 23 (.ext (.t 19) 0),
 o1 24 (.ext (.t 19) 1),
 ⟨none,.store 4 (.t 11) (.t 23),none⟩,
 mv 12 24] [2,3,4,8,9,10,11,12])))))))))))))))))
 (.seq
 (.reg [mv 81 8,
 o1 82 (.load true 4 (.t 11)),
 o1 83 (.bslice false 29 4 [(.s []),(.s []),(.s []),(.s [])] 1 [(0,(.t 82))]),
 o1 84 (.app 29 4 64 (.t 81) (.t 83)),
 mv 8 84] [2,3,4,8,9,10,12])
 (.reg [mv 85 9,
 mv 86 12,
 o1 87 (.bslice false 31 1 [(.i .i64 0)] 1 [(0,(.t 86))]),
 o1 88 (.app 31 1 8 (.t 85) (.t 87)),
 mv 9 88] [2,3,4,8,9,10]))))))
 (.reg [mv 15 10,
 o1 16 (.bin .add (.t 15) (.c (.i .i64 1))),
 mv 10 16] [2,3,4,8,9,10]))
def b32:C :=
 .seq
 (.reg [o1 3 (.box 29 (.t 0)),
 o1 4 (.box 29 (.t 1)),
 o1 6 (.newGr 29 4),
 o1 7 (.newGr 31 1)] [2,3,4])
 (.seq
 (.reg [o1 8 (.newGr 29 4)] [2,3,4,8])
 (.seq
 (.reg [o1 9 (.newGr 31 1)] [2,3,4,8,9])
 (.seq
 (.seq
 (.reg [o1 10 (.move (.c (.i .i64 0)))] [2,3,4,8,9,10])
 (.block 0 (.loop l32_0)))
 (.seq
 (.reg [mv 89 8,
 mv 90 9,
 mv 6 89,
 mv 7 90] [6,7])
 (.ret)))))
def c32:SF:=⟨91,[.t 6,.t 7],b32,none⟩
def h33:Hints:=⟨[(0,[1,2]),(1,[2,3])],[]⟩
def b33:C :=
 .seq
 (.reg [o1 1 (.box 29 (.t 0)),
 o1 2 (.alloc 26 [(.s []),(.s [])]),
 o1 3 (.move (.c (.i .i64 0)))] [1,2])
 (.seq
 (.reg [o1 4 (.mkF 93 [] [(.t 1)]),
 o1 5 (.load true 4 (.t 1)),
 o1 6 (.bslice false 29 4 [(.s []),(.s []),(.s []),(.s [])] 1 [(0,(.t 5))]),
 o1 7 (.call false (.f 92) [(.t 4),(.t 6)]),
 o1 8 (.ext (.t 7) 0),
 o1 9 (.ext (.t 7) 1),
 ⟨none,.store 2 (.t 2) (.t 8),none⟩,
 mv 3 9] [2,3])
 (.ret))
def c33:SF:=⟨10,[.cell 2 true 2,.t 3],b33,none⟩
def h34:Hints:=⟨[(0,[1,2]),(1,[1,2,4]),(2,[2,4,5,6]),(3,[2,5,22]),(4,[2,3]),(5,[2,3])],[]⟩
def b34:C :=
 .seq
 (.reg [o1 1 (.box 29 (.t 0)),
 o1 2 (.alloc 26 [(.s []),(.s [])]),
 o1 3 (.move (.c (.i .i64 0)))] [1,2])
 (.seq
 (.reg [o1 7 (.load true 4 (.t 1)),
 o1 8 (.call false (.f 36) [(.t 7)]),
 mv 4 8] [1,2,4])
 (.seq
 (.reg [o1 10 (.fieldAddr 2 (.t 1)),
 o1 11 (.load true 2 (.t 10)),
 o1 12 (.fieldAddr 0 (.t 1)),
 o1 13 (.load true 2 (.t 12)),
 o1 14 (.call false (.f 29) [(.t 11),(.t 13)]),
 mv 9 14,
 o1 15 (.ext (.t 9) 0),
 o1 16 (.ext (.t 9) 1),
 o1 5 (.alloc 26 [(.s []),(.s [])]),
 ⟨none,.store 2 (.t 5) (.t 15),none⟩,
 mv 6 16] [2,4,5,6])
 (.seq
 (.seq
 (.reg [mv 17 4,
 o1 18 (.un .not (.t 17)),
 mv 19 18,
 ⟨(some 20),.move (.t 6),some (19,false)⟩,
 ⟨(some 21),.bin .neq (.t 20) (.c (.i .i64 0)),some (19,false)⟩,
 o1 22 (.pick (.t 19) (.c (.b true)) (.t 21))] [2,5,22])
 (.cond (.t 22)
 (.seq
 (.reg [o1 23 (.build [(.s []),(.s [])] []),
 ⟨none,.store 2 (.t 2) (.t 23),none⟩,
 o1 3 (.move (.c (.i .i64 50)))] [2,3])
 (.ret))
 (.skip)))
 (.seq
 (.reg [o1 24 (.load true 2 (.t 5)),
 ⟨none,.store 2 (.t 2) (.t 24),none⟩,
 o1 3 (.move (.c (.i .i64 0)))] [2,3])
 (.ret)))))
def c34:SF:=⟨25,[.cell 2 true 2,.t 3],b34,none⟩
def h35:Hints:=⟨[(0,[1]),(1,[2])],[]⟩
def b35:C :=
 .seq
 (.reg [o1 1 (.box 29 (.t 0)),
 o1 2 (.move (.c (.b false)))] [1])
 (.seq
 (.reg [o1 3 (.fieldAddr 0 (.t 1)),
 o1 4 (.load true 2 (.t 3)),
 o1 5 (.call false (.f 46) [(.t 4)]),
 mv 6 5,
 ⟨(some 7),.fieldAddr 2 (.t 1),some (6,true)⟩,
 ⟨(some 8),.load true 2 (.t 7),some (6,true)⟩,
 ⟨(some 9),.call false (.f 46) [(.t 8)],some (6,true)⟩,
 o1 10 (.pick (.t 6) (.t 9) (.c (.b false))),
 mv 11 10,
 ⟨(some 12),.fieldAddr 0 (.t 1),some (11,true)⟩,
 ⟨(some 13),.load true 2 (.t 12),some (11,true)⟩,
 ⟨(some 14),.fieldAddr 2 (.t 1),some (11,true)⟩,
 ⟨(some 15),.load true 2 (.t 14),some (11,true)⟩,
 ⟨(some 16),.call false (.f 13) [(.t 13),(.t 15)],some (11,true)⟩,
 ⟨(some 17),.bin .leq (.t 16) (.c (.i .i64 0)),some (11,true)⟩,
 o1 18 (.pick (.t 11) (.t 17) (.c (.b false))),
 mv 2 18] [2])
 (.ret))
def c35:SF:=⟨19,[.t 2],b35,none⟩
def h36:Hints:=⟨[(0,[1]),(1,[1,3]),(2,[1,3,4]),(3,[2])],[]⟩
def b36:C :=
 .seq
 (.reg [o1 1 (.box 29 (.t 0)),
 o1 2 (.move (.c (.b false)))] [1])
 (.seq
 (.reg [o1 5 (.fieldAddr 0 (.t 1)),
 o1 6 (.load true 2 (.t 5)),
 o1 7 (.call false (.f 30) [(.t 6)]),
 mv 3 7] [1,3])
 (.seq
 (.reg [o1 8 (.fieldAddr 2 (.t 1)),
 o1 9 (.load true 2 (.t 8)),
 o1 10 (.call false (.f 30) [(.t 9)]),
 mv 4 10] [1,3,4])
 (.seq
 (.reg [mv 11 3,
 mv 12 11,
 ⟨(some 13),.move (.t 4),some (12,true)⟩,
 o1 14 (.pick (.t 12) (.t 13) (.c (.b false))),
 mv 15 14,
 ⟨(some 16),.fieldAddr 0 (.t 1),some (15,true)⟩,
 ⟨(some 17),.load true 2 (.t 16),some (15,true)⟩,
 ⟨(some 18),.fieldAddr 2 (.t 1),some (15,true)⟩,
 ⟨(some 19),.load true 2 (.t 18),some (15,true)⟩,
 ⟨(some 20),.call false (.f 94) [(.t 17),(.t 19)],some (15,true)⟩,
 ⟨(some 21),.bin .leq (.t 20) (.c (.i .i64 0)),some (15,true)⟩,
 o1 22 (.pick (.t 15) (.t 21) (.c (.b false))),
 mv 2 22] [2])
 (.ret))))
def c36:SF:=⟨23,[.t 2],b36,none⟩
def h37:Hints:=⟨[(0,[1,2]),(1,[1,2,5]),(2,[2]),(3,[2])],[]⟩
def b37:C :=
 .seq
 (.reg [o1 1 (.box 26 (.t 0)),
 o1 2 (.alloc 29 [(.s []),(.s []),(.s []),(.s [])])] [1,2])
 (.seq
 (.seq
 (.reg [o1 3 (.load true 2 (.t 1)),
 o1 4 (.call false (.f 46) [(.t 3)]),
 o1 5 (.un .not (.t 4))] [1,2,5])
 (.cond (.t 5)
 (.seq
 (.reg [o1 6 (.build [(.s []),(.s []),(.s []),(.s [])] []),
 ⟨none,.store 4 (.t 2) (.t 6),none⟩] [2])
 (.ret))
 (.skip)))
 (.seq
 (.reg [o1 7 (.load true 2 (.t 1)),
 o1 8 (.load true 2 (.t 1)),
 o1 9 (.build [(.s []),(.s []),(.s []),(.s [])] [(0,2,(.t 7)),(2,2,(.t 8))]),
 ⟨none,.store 4 (.t 2) (.t 9),none⟩] [2])
 (.ret)))
def c37:SF:=⟨10,[.cell 2 true 4],b37,none⟩
def h38:Hints:=⟨[(0,[1,2]),(1,[1,2,3]),(2,[1,2,7]),(3,[2]),(4,[2])],[]⟩
def b38:C :=
 .seq
 (.reg [o1 1 (.box 26 (.t 0)),
 o1 2 (.alloc 29 [(.s []),(.s []),(.s []),(.s [])])] [1,2])
 (.seq
 (.reg [o1 4 (.load true 2 (.t 1)),
 o1 5 (.call false (.f 30) [(.t 4)]),
 mv 3 5] [1,2,3])
 (.seq
 (.seq
 (.reg [mv 6 3,
 o1 7 (.un .not (.t 6))] [1,2,7])
 (.cond (.t 7)
 (.seq
 (.reg [o1 8 (.build [(.s []),(.s []),(.s []),(.s [])] []),
 ⟨none,.store 4 (.t 2) (.t 8),none⟩] [2])
 (.ret))
 (.skip)))
 (.seq
 (.reg [o1 9 (.load true 2 (.t 1)),
 o1 10 (.load true 2 (.t 1)),
 o1 11 (.build [(.s []),(.s []),(.s []),(.s [])] [(0,2,(.t 9)),(2,2,(.t 10))]),
 ⟨none,.store 4 (.t 2) (.t 11),none⟩] [2])
 (.ret))))
def c38:SF:=⟨12,[.cell 2 true 4],b38,none⟩
def h39:Hints:=⟨[(0,[2,3]),(1,[2,3,5]),(2,[2,3,5,6]),(3,[4])],[]⟩
def b39:C :=
 .seq
 (.reg [o1 2 (.box 29 (.t 0)),
 o1 3 (.box 26 (.t 1)),
 o1 4 (.move (.c (.b false)))] [2,3])
 (.seq
 (.reg [o1 7 (.load true 4 (.t 2)),
 o1 8 (.call false (.f 36) [(.t 7)]),
 mv 5 8] [2,3,5])
 (.seq
 (.reg [o1 9 (.load true 2 (.t 3)),
 o1 10 (.call false (.f 30) [(.t 9)]),
 mv 6 10] [2,3,5,6])
 (.seq
 (.reg [mv 11 5,
 mv 12 11,
 ⟨(some 13),.move (.t 6),some (12,true)⟩,
 o1 14 (.pick (.t 12) (.t 13) (.c (.b false))),
 mv 15 14,
 ⟨(some 16),.fieldAddr 0 (.t 2),some (15,true)⟩,
 ⟨(some 17),.load true 2 (.t 16),some (15,true)⟩,
 ⟨(some 18),.load true 2 (.t 3),some (15,true)⟩,
 ⟨(some 19),.call false (.f 94) [(.t 17),(.t 18)],some (15,true)⟩,
 ⟨(some 20),.bin .leq (.t 19) (.c (.i .i64 0)),some (15,true)⟩,
 o1 21 (.pick (.t 15) (.t 20) (.c (.b false))),
 mv 22 21,
 ⟨(some 23),.load true 2 (.t 3),some (22,true)⟩,
 ⟨(some 24),.fieldAddr 2 (.t 2),some (22,true)⟩,
 ⟨(some 25),.load true 2 (.t 24),some (22,true)⟩,
 ⟨(some 26),.call false (.f 94) [(.t 23),(.t 25)],some (22,true)⟩,
 ⟨(some 27),.bin .leq (.t 26) (.c (.i .i64 0)),some (22,true)⟩,
 o1 28 (.pick (.t 22) (.t 27) (.c (.b false))),
 mv 4 28] [4])
 (.ret))))
def c39:SF:=⟨29,[.t 4],b39,none⟩
def h40:Hints:=⟨[(0,[2,3]),(1,[2,3,5]),(2,[2,3,5,6]),(3,[5,6,7]),(4,[4])],[]⟩
def b40:C :=
 .seq
 (.reg [o1 2 (.box 29 (.t 0)),
 o1 3 (.box 29 (.t 1)),
 o1 4 (.move (.c (.b false)))] [2,3])
 (.seq
 (.reg [o1 8 (.load true 4 (.t 2)),
 o1 9 (.call false (.f 36) [(.t 8)]),
 mv 5 9] [2,3,5])
 (.seq
 (.reg [o1 10 (.load true 4 (.t 3)),
 o1 11 (.fieldAddr 0 (.t 2)),
 o1 12 (.load true 2 (.t 11)),
 o1 13 (.call false (.f 39) [(.t 10),(.t 12)]),
 mv 6 13] [2,3,5,6])
 (.seq
 (.reg [o1 14 (.load true 4 (.t 3)),
 o1 15 (.fieldAddr 2 (.t 2)),
 o1 16 (.load true 2 (.t 15)),
 o1 17 (.call false (.f 39) [(.t 14),(.t 16)]),
 mv 7 17] [5,6,7])
 (.seq
 (.reg [mv 18 5,
 mv 19 18,
 ⟨(some 20),.move (.t 6),some (19,true)⟩,
 o1 21 (.pick (.t 19) (.t 20) (.c (.b false))),
 mv 22 21,
 ⟨(some 23),.move (.t 7),some (22,true)⟩,
 o1 24 (.pick (.t 22) (.t 23) (.c (.b false))),
 mv 4 24] [4])
 (.ret)))))
def c40:SF:=⟨25,[.t 4],b40,none⟩
def h41:Hints:=⟨[(0,[2,3,4]),(1,[4,5])],[]⟩
def b41:C :=
 .seq
 (.reg [o1 2 (.box 29 (.t 0)),
 o1 3 (.box 29 (.t 1)),
 o1 4 (.alloc 29 [(.s []),(.s []),(.s []),(.s [])]),
 o1 5 (.move (.c (.i .i64 0)))] [2,3,4])
 (.seq
 (.reg [o1 6 (.mkF 95 [] [(.t 2),(.t 3)]),
 o1 7 (.load true 4 (.t 2)),
 o1 8 (.load true 4 (.t 3)),
 o1 9 (.bslice false 29 4 [(.s []),(.s []),(.s []),(.s [])] 2 [(0,(.t 7)),(1,(.t 8))]),
 o1 10 (.call false (.f 49) [(.t 6),(.t 9)]),
 o1 11 (.ext (.t 10) 0),
 o1 12 (.ext (.t 10) 1),
 ⟨none,.store 4 (.t 4) (.t 11),none⟩,
 mv 5 12] [4,5])
 (.ret))
def c41:SF:=⟨13,[.cell 4 true 4,.t 5],b41,none⟩
def h42:Hints:=⟨[(0,[0,1,4]),(1,[4])],[]⟩
def b42:C :=
 .seq
 (.reg [o1 4 (.alloc 29 [(.s []),(.s []),(.s []),(.s [])])] [0,1,4])
 (.seq
 (.reg [mv 5 0,
 o1 6 (.call false (.f 16) [(.t 5),(.c (.i .i64 1))]),
 mv 7 1,
 o1 8 (.call false (.f 16) [(.t 7),(.c (.i .i64 1))]),
 o1 9 (.build [(.s []),(.s []),(.s []),(.s [])] [(0,2,(.t 6)),(2,2,(.t 8))]),
 ⟨none,.store 4 (.t 4) (.t 9),none⟩] [4])
 (.ret))
def c42:SF:=⟨10,[.cell 4 true 4],b42,none⟩
def h43:Hints:=⟨[(0,[2,3,4]),(1,[4,5])],[]⟩
def b43:C :=
 .seq
 (.reg [o1 2 (.box 29 (.t 0)),
 o1 3 (.box 29 (.t 1)),
 o1 4 (.alloc 29 [(.s []),(.s []),(.s []),(.s [])]),
 o1 5 (.move (.c (.i .i64 0)))] [2,3,4])
 (.seq
 (.reg [o1 6 (.mkF 97 [] [(.t 3),(.t 2)]),
 o1 7 (.load true 4 (.t 2)),
 o1 8 (.load true 4 (.t 3)),
 o1 9 (.bslice false 29 4 [(.s []),(.s []),(.s []),(.s [])] 2 [(0,(.t 7)),(1,(.t 8))]),
 o1 10 (.call false (.f 49) [(.t 6),(.t 9)]),
 o1 11 (.ext (.t 10) 0),
 o1 12 (.ext (.t 10) 1),
 ⟨none,.store 4 (.t 4) (.t 11),none⟩,
 mv 5 12] [4,5])
 (.ret))
def c43:SF:=⟨13,[.cell 4 true 4,.t 5],b43,none⟩
def h44:Hints:=⟨[(0,[0,1]),(1,[0,1,6]),(2,[0,1]),(3,[4])],[]⟩
def b44:C :=
 .seq
 (.reg [o1 4 (.move (.c (.i .i64 0)))] [0,1])
 (.seq
 (.seq
 (.reg [mv 5 0,
 o1 6 (.bin .lss (.t 5) (.c (.i .i64 0)))] [0,1,6])
 (.cond (.t 6)
 (.reg [mv 7 0,
 o1 8 (.bin .add (.t 7) (.c (.i .i64 1))),
 o1 9 (.un .neg (.t 8)),
 mv 0 9] [0,1])
 (.skip)))
 (.seq
 (.reg [mv 10 0,
 mv 11 1,
 o1 12 (.bin .rem (.t 10) (.t 11)),
 mv 4 12] [4])
 (.ret)))
def c44:SF:=⟨13,[.t 4],b44,none⟩
def h45:Hints:=⟨[(0,[0,1,4]),(1,[0,1,4,6]),(2,[0,1,4,6,7]),(3,[0,1,4,29]),(4,[4,5]),(5,[0,1,4,33]),(6,[0,1,4]),(7,[0,1,4]),(8,[0,1,4,8]),(9,[1,4,8,10,12]),(10,[4,10,12,13,15]),(11,[4,10,13,69]),(12,[4,5]),(13,[4,5])],[]⟩
def b45:C :=
 .seq
 (.reg [o1 4 (.alloc 26 [(.s []),(.s [])]),
 o1 5 (.move (.c (.i .i64 0)))] [0,1,4])
 (.seq
 (.reg [mv 16 0,
 o1 17 (.call false (.f 79) [(.t 16)]),
 mv 6 17] [0,1,4,6])
 (.seq
 (.reg [mv 18 1,
 o1 19 (.call false (.f 79) [(.t 18)]),
 mv 7 19] [0,1,4,6,7])
 (.seq
 (.seq
 (.reg [mv 20 6,
 o1 21 (.un .not (.t 20)),
 mv 22 21,
 ⟨(some 23),.move (.t 7),some (22,false)⟩,
 ⟨(some 24),.un .not (.t 23),some (22,false)⟩,
 o1 25 (.pick (.t 22) (.c (.b true)) (.t 24)),
 mv 26 25,
 ⟨(some 27),.move (.t 1),some (26,false)⟩,
 ⟨(some 28),.bin .eql (.t 27) (.c (.s [48])),some (26,false)⟩,
 o1 29 (.pick (.t 26) (.c (.b true)) (.t 28))] [0,1,4,29])
 (.cond (.t 29)
 (.seq
 (.reg [o1 30 (.build [(.s []),(.s [])] []),
 ⟨none,.store 2 (.t 4) (.t 30),none⟩,
 o1 5 (.move (.c (.i .i64 40)))] [4,5])
 (.ret))
 (.skip)))
 (.seq
 (.seq
 (.reg [mv 31 1,
 o1 32 (.call false (.f 80) [(.t 31),(.c (.s [48]))]),
 o1 33 (.bin .lss (.t 32) (.c (.i .i64 0)))] [0,1,4,33])
 (.cond (.t 33)
 (.seq
 (.reg [mv 35 0,
 o1 36 (.call false (.f 78) [(.c (.s [48])),(.t 35)]),
 mv 34 36,
 o1 37 (.ext (.t 34) 0),
 o1 38 (.ext (.t 34) 1),
 mv 0 37] [0,1,4])
 (.reg [mv 40 1,
 o1 41 (.call false (.f 78) [(.c (.s [48])),(.t 40)]),
 mv 39 41,
 o1 42 (.ext (.t 39) 0),
 o1 43 (.ext (.t 39) 1),
 mv 1 42] [0,1,4]))
 (.skip)))
 (.seq
 (.reg [mv 45 0,
 mv 46 1,
 o1 47 (.call false (.f 81) [(.t 45),(.t 46)]),
 mv 44 47,
 o1 48 (.ext (.t 44) 0),
 o1 49 (.ext (.t 44) 1),
 mv 8 48,
 mv 9 49] [0,1,4,8])
 (.seq
 (.reg [mv 51 0,
 mv 52 8,
 o1 53 (.call false (.f 98) [(.t 51),(.t 52)]),
 mv 50 53,
 o1 54 (.ext (.t 50) 0),
 o1 55 (.ext (.t 50) 1),
 o1 56 (.ext (.t 50) 2),
 mv 10 54,
 mv 11 55,
 mv 12 56] [1,4,8,10,12])
 (.seq
 (.reg [mv 58 1,
 mv 59 8,
 o1 60 (.call false (.f 98) [(.t 58),(.t 59)]),
 mv 57 60,
 o1 61 (.ext (.t 57) 0),
 o1 62 (.ext (.t 57) 1),
 o1 63 (.ext (.t 57) 2),
 mv 13 61,
 mv 14 62,
 mv 15 63] [4,10,12,13,15])
 (.seq
 (.seq
 (.reg [mv 64 12,
 o1 65 (.bin .neq (.t 64) (.c (.i .i64 0))),
 mv 66 65,
 ⟨(some 67),.move (.t 15),some (66,false)⟩,
 ⟨(some 68),.bin .neq (.t 67) (.c (.i .i64 0)),some (66,false)⟩,
 o1 69 (.pick (.t 66) (.c (.b true)) (.t 68))] [4,10,13,69])
 (.cond (.t 69)
 (.seq
 (.reg [o1 70 (.build [(.s []),(.s [])] []),
 ⟨none,.store 2 (.t 4) (.t 70),none⟩,
 o1 5 (.move (.c (.i .i64 40)))] [4,5])
 (.ret))
 (.skip)))
 (.seq
 (.reg [mv 71 10,
 mv 72 13,
 o1 73 (.build [(.s []),(.s [])] [(0,1,(.t 71)),(1,1,(.t 72))]),
 ⟨none,.store 2 (.t 4) (.t 73),none⟩,
 o1 5 (.move (.c (.i .i64 0)))] [4,5])
 (.ret))))))))))
def c45:SF:=⟨74,[.cell 4 true 2,.t 5],b45,none⟩
def h46:Hints:=⟨[(0,[1]),(1,[1,20]),(2,[2]),(3,[3,4]),(4,[2])],[]⟩
def b46:C :=
 .seq
 (.reg [o1 1 (.box 26 (.t 0)),
 o1 2 (.move (.c (.b false)))] [1])
 (.seq
 (.seq
 (.reg [o1 5 (.fieldAddr 0 (.t 1)),
 o1 6 (.load false 1 (.t 5)),
 o1 7 (.call false (.f 99) [(.t 6)]),
 o1 8 (.un .not (.t 7)),
 mv 9 8,
 ⟨(some 10),.fieldAddr 1 (.t 1),some (9,false)⟩,
 ⟨(some 11),.load false 1 (.t 10),some (9,false)⟩,
 ⟨(some 12),.call false (.f 99) [(.t 11)],some (9,false)⟩,
 ⟨(some 13),.un .not (.t 12),some (9,false)⟩,
 o1 14 (.pick (.t 9) (.c (.b true)) (.t 13)),
 mv 15 14,
 ⟨(some 16),.fieldAddr 1 (.t 1),some (15,false)⟩,
 ⟨(some 17),.load false 1 (.t 16),some (15,false)⟩,
 ⟨(some 18),.call false (.f 48) [(.t 17),(.c (.s [48]))],some (15,false)⟩,
 ⟨(some 19),.bin .leq (.t 18) (.c (.i .i64 0)),some (15,false)⟩,
 o1 20 (.pick (.t 15) (.c (.b true)) (.t 19))] [1,20])
 (.cond (.t 20)
 (.seq
 (.reg [o1 2 (.move (.c (.b false)))] [2])
 (.ret))
 (.skip)))
 (.seq
 (.reg [o1 22 (.fieldAddr 0 (.t 1)),
 o1 23 (.load false 1 (.t 22)),
 o1 24 (.fieldAddr 1 (.t 1)),
 o1 25 (.load false 1 (.t 24)),
 o1 26 (.call false (.f 100) [(.t 23),(.t 25)]),
 mv 21 26,
 o1 27 (.ext (.t 21) 0),
 o1 28 (.ext (.t 21) 1),
 mv 3 27,
 mv 4 28] [3,4])
 (.seq
 (.reg [mv 29 4,
 o1 30 (.bin .eql (.t 29) (.c (.i .i64 0))),
 mv 31 30,
 ⟨(some 32),.move (.t 3),some (31,true)⟩,
 ⟨(some 33),.bin .eql (.t 32) (.c (.s [49])),some (31,true)⟩,
 o1 34 (.pick (.t 31) (.t 33) (.c (.b false))),
 mv 2 34] [2])
 (.ret))))
def c46:SF:=⟨35,[.t 2],b46,none⟩
def h47:Hints:=⟨[(0,[0,1]),(1,[7,8,9]),(2,[7,8,30]),(3,[4,5,6]),(4,[7,8,10,11]),(5,[7,8,10,11,45]),(6,[7,8,10,11]),(7,[11,12,13]),(8,[11,12,13,65]),(9,[4,5,6]),(10,[12,14]),(11,[4,5,6])],[]⟩
def b47:C :=
 .seq
 (.reg [o1 4 (.move (.c (.s []))),
 o1 5 (.move (.c (.s []))),
 o1 6 (.move (.c (.i .i64 0)))] [0,1])
 (.seq
 (.reg [mv 17 0,
 mv 18 1,
 o1 19 (.call false (.f 101) [(.t 17),(.t 18)]),
 mv 16 19,
 o1 20 (.ext (.t 16) 0),
 o1 21 (.ext (.t 16) 1),
 o1 22 (.ext (.t 16) 2),
 o1 7 (.alloc 103 [(.b false),(.ls [])]),
 o1 8 (.alloc 103 [(.b false),(.ls [])]),
 ⟨none,.store 2 (.t 7) (.t 20),none⟩,
 ⟨none,.store 2 (.t 8) (.t 21),none⟩,
 mv 9 22] [7,8,9])
 (.seq
 (.seq
 (.reg [mv 23 9,
 o1 24 (.un .not (.t 23)),
 mv 25 24,
 ⟨(some 26),.fieldAddr 1 (.t 8),some (25,false)⟩,
 ⟨(some 27),.load false 1 (.t 26),some (25,false)⟩,
 ⟨(some 28),.len false (.t 27),some (25,false)⟩,
 ⟨(some 29),.bin .eql (.t 28) (.c (.i .i64 0)),some (25,false)⟩,
 o1 30 (.pick (.t 25) (.c (.b true)) (.t 29))] [7,8,30])
 (.cond (.t 30)
 (.seq
 (.reg [o1 4 (.move (.c (.s []))),
 o1 5 (.move (.c (.s []))),
 o1 6 (.move (.c (.i .i64 30)))] [4,5,6])
 (.ret))
 (.skip)))
 (.seq
 (.reg [o1 32 (.fieldAddr 1 (.t 7)),
 o1 33 (.load false 1 (.t 32)),
 o1 34 (.fieldAddr 1 (.t 8)),
 o1 35 (.load false 1 (.t 34)),
 o1 36 (.call false (.f 102) [(.t 33),(.t 35)]),
 mv 31 36,
 o1 37 (.ext (.t 31) 0),
 o1 38 (.ext (.t 31) 1),
 mv 10 37,
 mv 11 38] [7,8,10,11])
 (.seq
 (.seq
 (.reg [o1 39 (.fieldAddr 0 (.t 7)),
 o1 40 (.load false 1 (.t 39)),
 mv 41 40,
 ⟨(some 42),.move (.t 11),some (41,true)⟩,
 ⟨(some 43),.len false (.t 42),some (41,true)⟩,
 ⟨(some 44),.bin .gtr (.t 43) (.c (.i .i64 0)),some (41,true)⟩,
 o1 45 (.pick (.t 41) (.t 44) (.c (.b false)))] [7,8,10,11,45])
 (.cond (.t 45)
 (.draw [⟨0,mv 46 10,0,[]⟩,
 ⟨3,o1 49 (.fieldAddr 1 (.t 8)),0,[]⟩,
 ⟨4,o1 50 (.load false 1 (.t 49)),0,[]⟩,
 ⟨5,mv 51 11,0,[]⟩,
 ⟨1,o1 47 (.call false (.f 104) []),1,[4]⟩,
 ⟨2,o1 48 (.call false (.f 103) [(.t 46),(.t 47)]),1,[4]⟩,
 ⟨6,o1 52 (.call false (.f 105) [(.t 50),(.t 51)]),1,[]⟩,
 ⟨7,mv 10 48,0,[]⟩,
 ⟨8,mv 11 52,0,[]⟩] [7,8,10,11])
 (.skip)))
 (.seq
 (.reg [o1 54 (.fieldAddr 0 (.t 7)),
 o1 55 (.load false 1 (.t 54)),
 o1 56 (.fieldAddr 0 (.t 8)),
 o1 57 (.load false 1 (.t 56)),
 o1 58 (.eqB true (.t 55) (.t 57)),
 mv 59 10,
 o1 60 (.build [(.b false),(.ls [])] [(0,1,(.t 58)),(1,1,(.t 59))]),
 o1 61 (.call false (.f 106) [(.t 60)]),
 mv 53 61,
 o1 62 (.ext (.t 53) 0),
 o1 63 (.ext (.t 53) 1),
 mv 12 62,
 mv 13 63] [11,12,13])
 (.seq
 (.seq
 (.reg [mv 64 13,
 o1 65 (.bin .neq (.t 64) (.c (.i .i64 0)))] [11,12,13,65])
 (.cond (.t 65)
 (.seq
 (.reg [mv 66 13,
 o1 4 (.move (.c (.s []))),
 o1 5 (.move (.c (.s []))),
 mv 6 66] [4,5,6])
 (.ret))
 (.skip)))
 (.seq
 (.reg [mv 68 11,
 o1 69 (.build [(.b false),(.ls [])] [(1,1,(.t 68))]),
 o1 70 (.call false (.f 106) [(.t 69)]),
 mv 67 70,
 o1 71 (.ext (.t 67) 0),
 o1 72 (.ext (.t 67) 1),
 mv 14 71,
 mv 15 72] [12,14])
 (.seq
 (.reg [mv 73 12,
 mv 74 14,
 mv 4 73,
 mv 5 74,
 o1 6 (.move (.c (.i .i64 0)))] [4,5,6])
 (.ret)))))))))
def c47:SF:=⟨75,[.t 4,.t 5,.t 6],b47,none⟩
def h48:Hints:=⟨[(0,[0,1]),(1,[5,6,7]),(2,[5,6,15]),(4,[5,6,18]),(6,[5,6,30]),(8,[5,6,33]),(9,[4]),(7,[4]),(5,[4]),(3,[4]),(10,[4])],[]⟩
def b48:C :=
 .seq
 (.reg [o1 4 (.move (.c (.i .i64 0)))] [0,1])
 (.seq
 (.reg [mv 9 0,
 mv 10 1,
 o1 11 (.call false (.f 101) [(.t 9),(.t 10)]),
 mv 8 11,
 o1 12 (.ext (.t 8) 0),
 o1 13 (.ext (.t 8) 1),
 o1 14 (.ext (.t 8) 2),
 o1 5 (.alloc 103 [(.b false),(.ls [])]),
 o1 6 (.alloc 103 [(.b false),(.ls [])]),
 ⟨none,.store 2 (.t 5) (.t 12),none⟩,
 ⟨none,.store 2 (.t 6) (.t 13),none⟩,
 mv 7 14] [5,6,7])
 (.seq
 (.block 0 (.seq
 (.reg [mv 16 7,
 o1 17 (.un .not (.t 16)),
 mv 15 17] [5,6,15])
 (.cond (.t 15)
 (.seq
 (.reg [o1 4 (.move (.c (.i .i64 0)))] [4])
 (.ret))
 (.seq
 (.reg [o1 19 (.fieldAddr 0 (.t 5)),
 o1 20 (.load false 1 (.t 19)),
 mv 21 20,
 ⟨(some 22),.fieldAddr 0 (.t 6),some (21,true)⟩,
 ⟨(some 23),.load false 1 (.t 22),some (21,true)⟩,
 o1 24 (.pick (.t 21) (.t 23) (.c (.b false))),
 mv 18 24] [5,6,18])
 (.cond (.t 18)
 (.seq
 (.reg [o1 25 (.fieldAddr 1 (.t 6)),
 o1 26 (.load false 1 (.t 25)),
 o1 27 (.fieldAddr 1 (.t 5)),
 o1 28 (.load false 1 (.t 27)),
 o1 29 (.call false (.f 107) [(.t 26),(.t 28)]),
 mv 4 29] [4])
 (.ret))
 (.seq
 (.reg [o1 31 (.fieldAddr 0 (.t 5)),
 o1 32 (.load false 1 (.t 31)),
 mv 30 32] [5,6,30])
 (.cond (.t 30)
 (.seq
 (.reg [o1 4 (.move (.c (.i .i64 (-1))))] [4])
 (.ret))
 (.seq
 (.reg [o1 34 (.fieldAddr 0 (.t 6)),
 o1 35 (.load false 1 (.t 34)),
 mv 33 35] [5,6,33])
 (.cond (.t 33)
 (.seq
 (.reg [o1 4 (.move (.c (.i .i64 1)))] [4])
 (.ret))
 (.skip))))))))))
 (.seq
 (.reg [o1 36 (.fieldAddr 1 (.t 5)),
 o1 37 (.load false 1 (.t 36)),
 o1 38 (.fieldAddr 1 (.t 6)),
 o1 39 (.load false 1 (.t 38)),
 o1 40 (.call false (.f 107) [(.t 37),(.t 39)]),
 mv 4 40] [4])
 (.ret))))
def c48:SF:=⟨41,[.t 4],b48,none⟩
def h49:Hints:=⟨[(0,[0,1,4,5]),(1,[0,1,4,5]),(2,[0,4,5]),(3,[4,5])],[]⟩
def b49:C :=
 .seq
 (.reg [o1 4 (.alloc 29 [(.s []),(.s []),(.s []),(.s [])]),
 o1 5 (.alloc 31 [(.i .i64 0)])] [0,1,4,5])
 (.skip)
def r49:C :=
 .seq
 (.reg [mv 7 1,
 o1 8 (.call false (.f 110) [(.t 7),(.f 111)]),
 o1 9 (.un .not (.t 8)),
 o1 10 (.call false (.f 67) [(.t 9)])] [0,4,5])
 (.seq
 (.reg [mv 11 0,
 o1 12 (.call false (.t 11) []),
 ⟨none,.store 4 (.t 4) (.t 12),none⟩,
 ⟨none,.store 1 (.t 5) (.c (.i .i64 0)),none⟩] [4,5])
 (.ret))
def c49:SF:=⟨13,[.cell 4 true 4,.cell 5 false 1],b49,some ⟨[o1 6 (.mkF 108 [] [(.t 4),(.t 5)])],(.t 6),[],r49⟩⟩
def h50:Hints:=⟨[(0,[0,1,2]),(1,[2])],[]⟩
def b50:C :=
 .seq
 (.reg [o1 2 (.alloc 29 [(.s []),(.s []),(.s []),(.s [])])] [0,1,2])
 (.seq
 (.draw [⟨0,o1 3 (.fieldAddr 0 (.t 0)),0,[]⟩,
 ⟨1,o1 4 (.load true 2 (.t 3)),0,[]⟩,
 ⟨2,o1 5 (.load false 1 (.t 1)),0,[]⟩,
 ⟨7,o1 10 (.fieldAddr 2 (.t 0)),0,[]⟩,
 ⟨8,o1 11 (.load true 2 (.t 10)),0,[]⟩,
 ⟨9,o1 12 (.load false 1 (.t 1)),0,[]⟩,
 ⟨3,o1 6 (.call false (.f 52) [(.t 4),(.t 5)]),1,[9,8]⟩,
 ⟨4,o1 7 (.ext (.t 6) 0),0,[]⟩,
 ⟨5,o1 8 (.ext (.t 6) 1),0,[]⟩,
 ⟨6,o1 9 (.call false (.f 51) [(.t 7),(.t 8)]),1,[9,8]⟩,
 ⟨10,o1 13 (.call false (.f 53) [(.t 11),(.t 12)]),1,[]⟩,
 ⟨11,o1 14 (.ext (.t 13) 0),0,[]⟩,
 ⟨12,o1 15 (.ext (.t 13) 1),0,[]⟩,
 ⟨13,o1 16 (.call false (.f 51) [(.t 14),(.t 15)]),1,[]⟩,
 ⟨14,o1 17 (.build [(.s []),(.s []),(.s []),(.s [])] [(0,2,(.t 9)),(2,2,(.t 16))]),0,[]⟩,
 ⟨15,⟨none,.store 4 (.t 2) (.t 17),none⟩,1,[]⟩] [2])
 (.ret))
def c50:SF:=⟨18,[.cell 2 true 4],b50,none⟩
def h51:Hints:=⟨[(0,[1,2,4]),(1,[2,4]),(2,[4])],[]⟩
def b51:C :=
 .seq
 (.reg [o1 2 (.box 26 (.t 0)),
 o1 4 (.alloc 26 [(.s []),(.s [])])] [1,2,4])
 (.seq
 (.reg [mv 5 1,
 o1 6 (.bin .eql (.t 5) (.c (.i .i64 0))),
 o1 7 (.call false (.f 67) [(.t 6)])] [2,4])
 (.seq
 (.reg [o1 8 (.load true 2 (.t 2)),
 ⟨none,.store 2 (.t 4) (.t 8),none⟩] [4])
 (.ret)))
def c51:SF:=⟨9,[.cell 4 true 2],b51,none⟩
def h52:Hints:=⟨[(0,[1,2,4]),(1,[4,5])],[]⟩
def b52:C :=
 .seq
 (.reg [o1 2 (.box 26 (.t 0)),
 o1 4 (.alloc 26 [(.s []),(.s [])]),
 o1 5 (.move (.c (.i .i64 0)))] [1,2,4])
 (.seq
 (.reg [o1 6 (.load true 2 (.t 2)),
 mv 7 1,
 o1 8 (.call false (.f 112) [(.t 6),(.t 7),(.c (.b false))]),
 o1 9 (.ext (.t 8) 0),
 o1 10 (.ext (.t 8) 1),
 ⟨none,.store 2 (.t 4) (.t 9),none⟩,
 mv 5 10] [4,5])
 (.ret))
def c52:SF:=⟨11,[.cell 4 true 2,.t 5],b52,none⟩
def h53:Hints:=⟨[(0,[1,2,4]),(1,[4,5])],[]⟩
def b53:C :=
 .seq
 (.reg [o1 2 (.box 26 (.t 0)),
 o1 4 (.alloc 26 [(.s []),(.s [])]),
 o1 5 (.move (.c (.i .i64 0)))] [1,2,4])
 (.seq
 (.reg [o1 6 (.load true 2 (.t 2)),
 mv 7 1,
 o1 8 (.call false (.f 112) [(.t 6),(.t 7),(.c (.b true))]),
 o1 9 (.ext (.t 8) 0),
 o1 10 (.ext (.t 8) 1),
 ⟨none,.store 2 (.t 4) (.t 9),none⟩,
 mv 5 10] [4,5])
 (.ret))
def c53:SF:=⟨11,[.cell 4 true 2,.t 5],b53,none⟩
def h54:Hints:=⟨[(0,[0,1,4]),(1,[4,5])],[]⟩
def b54:C :=
 .seq
 (.reg [o1 4 (.alloc 26 [(.s []),(.s [])]),
 o1 5 (.move (.c (.i .i64 0)))] [0,1,4])
 (.seq
 (.reg [mv 6 0,
 o1 7 (.call false (.f 113) [(.t 6)]),
 mv 8 1,
 o1 9 (.call false (.f 113) [(.t 8)]),
 o1 10 (.call false (.f 45) [(.t 7),(.t 9)]),
 o1 11 (.ext (.t 10) 0),
 o1 12 (.ext (.t 10) 1),
 ⟨none,.store 2 (.t 4) (.t 11),none⟩,
 mv 5 12] [4,5])
 (.ret))
def c54:SF:=⟨13,[.cell 4 true 2,.t 5],b54,none⟩
def h55:Hints:=⟨[(0,[0,6,7,8]),(1,[0,6,7,8,9]),(2,[0,5,6,7,8]),(3,[0,6,7,8]),(4,[0,6,7,8])],[]⟩
def l55_0:C :=
 .seq
 (.reg [o1 9 (.bin .lss (.t 8) (.t 7))] [0,6,7,8,9])
 (.seq
 (.cond (.t 9)
 (.skip)
 (.exit 0))
 (.seq
 (.block 1 (.seq
 (.reg [o1 10 (.ixS 2 (.t 6) (.t 8)),
 o1 11 (.load true 2 (.t 10)),
 o1 5 (.alloc 26 [(.s []),(.s [])]),
 ⟨none,.store 2 (.t 5) (.t 11),none⟩] [0,5,6,7,8])
 (.reg [mv 12 0,
 mv 13 0,
 o1 14 (.nilCheck (.t 13)),
 o1 15 (.fieldAddr 0 (.t 14)),
 o1 16 (.load false 1 (.t 15)),
 mv 17 16,
 ⟨(some 18),.load true 2 (.t 5),some (17,false)⟩,
 ⟨(some 19),.call false (.f 46) [(.t 18)],some (17,false)⟩,
 ⟨(some 20),.un .not (.t 19),some (17,false)⟩,
 o1 21 (.pick (.t 17) (.c (.b true)) (.t 20)),
 o1 22 (.nilCheck (.t 12)),
 o1 23 (.fieldAddr 0 (.t 22)),
 ⟨none,.store 1 (.t 23) (.t 21),none⟩] [0,6,7,8])))
 (.reg [o1 24 (.bin .add (.t 8) (.c (.i .i64 1))),
 mv 8 24] [0,6,7,8])))
def b55:C :=
 .seq
 (.reg [mv 6 1,
 o1 7 (.len false (.t 6)),
 o1 8 (.move (.c (.i .i64 0)))] [0,6,7,8])
 (.block 0 (.loop l55_0))
def c55:SF:=⟨25,[],b55,none⟩
def h56:Hints:=⟨[(0,[0,1,2]),(1,[6])],[]⟩
def b56:C :=
 .seq
 (.reg [o1 6 (.move (.c (.s [])))] [0,1,2])
 (.seq
 (.reg [mv 7 0,
 mv 8 1,
 mv 9 2,
 o1 10 (.call false (.f 114) [(.t 7),(.f 115),(.t 8),(.t 9)]),
 mv 6 10] [6])
 (.ret))
def c56:SF:=⟨11,[.t 6],b56,none⟩
def h57:Hints:=⟨[(0,[0,1,2,6]),(1,[0,1,2,6,17]),(2,[6,7]),(3,[0,1,2,6,21]),(4,[0,1,2,6]),(5,[0,1,2,6,8]),(6,[0,6,9]),(7,[6,9,44]),(8,[6,7]),(9,[6,7])],[]⟩
def b57:C :=
 .seq
 (.reg [o1 6 (.alloc 26 [(.s []),(.s [])]),
 o1 7 (.move (.c (.i .i64 0)))] [0,1,2,6])
 (.seq
 (.seq
 (.reg [mv 10 0,
 o1 11 (.nilCheck (.t 10)),
 o1 12 (.fieldAddr 0 (.t 11)),
 o1 13 (.load false 1 (.t 12)),
 mv 14 13,
 ⟨(some 15),.move (.t 2),some (14,false)⟩,
 ⟨(some 16),.bin .eql (.t 15) (.c (.s [48])),some (14,false)⟩,
 o1 17 (.pick (.t 14) (.c (.b true)) (.t 16))] [0,1,2,6,17])
 (.cond (.t 17)
 (.seq
 (.reg [o1 18 (.build [(.s []),(.s [])] []),
 ⟨none,.store 2 (.t 6) (.t 18),none⟩,
 o1 7 (.move (.c (.i .i64 40)))] [6,7])
 (.ret))
 (.skip)))
 (.seq
 (.seq
 (.reg [mv 19 2,
 o1 20 (.call false (.f 48) [(.t 19),(.c (.s [48]))]),
 o1 21 (.bin .lss (.t 20) (.c (.i .i64 0)))] [0,1,2,6,21])
 (.cond (.t 21)
 (.reg [mv 22 0,
 mv 23 1,
 o1 24 (.call false (.f 114) [(.t 22),(.f 59),(.c (.s [48])),(.t 23)]),
 mv 25 0,
 mv 26 2,
 o1 27 (.call false (.f 114) [(.t 25),(.f 59),(.c (.s [48])),(.t 26)]),
 mv 1 24,
 mv 2 27] [0,1,2,6])
 (.skip)))
 (.seq
 (.reg [mv 28 0,
 mv 29 1,
 mv 30 2,
 o1 31 (.call false (.f 114) [(.t 28),(.f 100),(.t 29),(.t 30)]),
 mv 8 31] [0,1,2,6,8])
 (.seq
 (.reg [mv 32 0,
 mv 33 1,
 mv 34 8,
 o1 35 (.call false (.f 116) [(.t 32),(.t 33),(.t 34)]),
 mv 36 0,
 mv 37 2,
 mv 38 8,
 o1 39 (.call false (.f 116) [(.t 36),(.t 37),(.t 38)]),
 o1 40 (.build [(.s []),(.s [])] [(0,1,(.t 35)),(1,1,(.t 39))]),
 o1 9 (.alloc 26 [(.s []),(.s [])]),
 ⟨none,.store 2 (.t 9) (.t 40),none⟩] [0,6,9])
 (.seq
 (.seq
 (.reg [mv 41 0,
 o1 42 (.nilCheck (.t 41)),
 o1 43 (.fieldAddr 0 (.t 42)),
 o1 44 (.load false 1 (.t 43))] [6,9,44])
 (.cond (.t 44)
 (.seq
 (.reg [o1 45 (.build [(.s []),(.s [])] []),
 ⟨none,.store 2 (.t 6) (.t 45),none⟩,
 o1 7 (.move (.c (.i .i64 40)))] [6,7])
 (.ret))
 (.skip)))
 (.seq
 (.reg [o1 46 (.load true 2 (.t 9)),
 ⟨none,.store 2 (.t 6) (.t 46),none⟩,
 o1 7 (.move (.c (.i .i64 0)))] [6,7])
 (.ret)))))))
def c57:SF:=⟨47,[.cell 6 true 2,.t 7],b57,none⟩
def h58:Hints:=⟨[(0,[0,4,5,6]),(1,[0,4,5,6,8]),(2,[0,4,5,6,8]),(3,[4,5,6,8,9]),(4,[6,7])],[]⟩
def b58:C :=
 .seq
 (.reg [o1 4 (.box 26 (.t 1)),
 o1 5 (.box 26 (.t 2)),
 o1 6 (.alloc 26 [(.s []),(.s [])]),
 o1 7 (.move (.c (.i .i64 0)))] [0,4,5,6])
 (.seq
 (.reg [o1 10 (.build [(.b false)] []),
 o1 11 (.box 78 (.t 10)),
 mv 8 11] [0,4,5,6,8])
 (.seq
 (.reg [mv 12 8,
 o1 13 (.load true 2 (.t 4)),
 o1 14 (.load true 2 (.t 5)),
 o1 15 (.bslice false 26 2 [(.s []),(.s [])] 2 [(0,(.t 13)),(1,(.t 14))]),
 o1 16 (.call false (.f 55) [(.t 12),(.t 15)])] [0,4,5,6,8])
 (.seq
 (.draw [⟨0,mv 17 8,0,[]⟩,
 ⟨1,mv 18 0,0,[]⟩,
 ⟨2,mv 19 8,0,[]⟩,
 ⟨3,o1 20 (.fieldAddr 0 (.t 4)),0,[]⟩,
 ⟨4,o1 21 (.load false 1 (.t 20)),0,[]⟩,
 ⟨5,o1 22 (.fieldAddr 1 (.t 5)),0,[]⟩,
 ⟨6,o1 23 (.load false 1 (.t 22)),0,[]⟩,
 ⟨8,mv 25 8,0,[]⟩,
 ⟨9,o1 26 (.fieldAddr 0 (.t 5)),0,[]⟩,
 ⟨10,o1 27 (.load false 1 (.t 26)),0,[]⟩,
 ⟨11,o1 28 (.fieldAddr 1 (.t 4)),0,[]⟩,
 ⟨12,o1 29 (.load false 1 (.t 28)),0,[]⟩,
 ⟨7,o1 24 (.call false (.f 56) [(.t 19),(.t 21),(.t 23)]),1,[12,10]⟩,
 ⟨13,o1 30 (.call false (.f 56) [(.t 25),(.t 27),(.t 29)]),1,[]⟩,
 ⟨14,o1 31 (.call false (.f 114) [(.t 17),(.t 18),(.t 24),(.t 30)]),1,[]⟩,
 ⟨15,mv 9 31,0,[]⟩] [4,5,6,8,9])
 (.seq
 (.reg [mv 32 8,
 mv 33 9,
 mv 34 8,
 o1 35 (.fieldAddr 1 (.t 4)),
 o1 36 (.load false 1 (.t 35)),
 o1 37 (.fieldAddr 1 (.t 5)),
 o1 38 (.load false 1 (.t 37)),
 o1 39 (.call false (.f 56) [(.t 34),(.t 36),(.t 38)]),
 o1 40 (.call false (.f 57) [(.t 32),(.t 33),(.t 39)]),
 o1 41 (.ext (.t 40) 0),
 o1 42 (.ext (.t 40) 1),
 ⟨none,.store 2 (.t 6) (.t 41),none⟩,
 mv 7 42] [6,7])
 (.ret)))))
def c58:SF:=⟨43,[.cell 6 true 2,.t 7],b58,none⟩
def h59:Hints:=⟨[(0,[0,1]),(1,[6,7,8]),(2,[6,7,17]),(3,[4,5]),(4,[6,7]),(5,[4,5])],[]⟩
def b59:C :=
 .seq
 (.reg [o1 4 (.move (.c (.s []))),
 o1 5 (.move (.c (.i .i64 0)))] [0,1])
 (.seq
 (.reg [mv 10 0,
 mv 11 1,
 o1 12 (.call false (.f 101) [(.t 10),(.t 11)]),
 mv 9 12,
 o1 13 (.ext (.t 9) 0),
 o1 14 (.ext (.t 9) 1),
 o1 15 (.ext (.t 9) 2),
 o1 6 (.alloc 103 [(.b false),(.ls [])]),
 o1 7 (.alloc 103 [(.b false),(.ls [])]),
 ⟨none,.store 2 (.t 6) (.t 13),none⟩,
 ⟨none,.store 2 (.t 7) (.t 14),none⟩,
 mv 8 15] [6,7,8])
 (.seq
 (.seq
 (.reg [mv 16 8,
 o1 17 (.un .not (.t 16))] [6,7,17])
 (.cond (.t 17)
 (.seq
 (.reg [o1 4 (.move (.c (.s []))),
 o1 5 (.move (.c (.i .i64 30)))] [4,5])
 (.ret))
 (.skip)))
 (.seq
 (.reg [o1 18 (.fieldAddr 0 (.t 7)),
 o1 19 (.load false 1 (.t 18)),
 o1 20 (.un .not (.t 19)),
 o1 21 (.fieldAddr 0 (.t 7)),
 ⟨none,.store 1 (.t 21) (.t 20),none⟩] [6,7])
 (.seq
 (.reg [o1 22 (.load true 2 (.t 6)),
 o1 23 (.load true 2 (.t 7)),
 o1 24 (.call false (.f 117) [(.t 22),(.t 23)]),
 o1 25 (.call false (.f 106) [(.t 24)]),
 o1 26 (.ext (.t 25) 0),
 o1 27 (.ext (.t 25) 1),
 mv 4 26,
 mv 5 27] [4,5])
 (.ret)))))
def c59:SF:=⟨28,[.t 4,.t 5],b59,none⟩
def h60:Hints:=⟨[(0,[2,3,4]),(1,[2,3,4,8]),(2,[4]),(3,[4])],[]⟩
def b60:C :=
 .seq
 (.reg [o1 2 (.box 26 (.t 0)),
 o1 3 (.box 26 (.t 1)),
 o1 4 (.alloc 26 [(.s []),(.s [])])] [2,3,4])
 (.seq
 (.seq
 (.reg [o1 5 (.load true 2 (.t 2)),
 o1 6 (.load true 2 (.t 3)),
 o1 7 (.call false (.f 94) [(.t 5),(.t 6)]),
 o1 8 (.bin .leq (.t 7) (.c (.i .i64 0)))] [2,3,4,8])
 (.cond (.t 8)
 (.seq
 (.reg [o1 9 (.load true 2 (.t 2)),
 ⟨none,.store 2 (.t 4) (.t 9),none⟩] [4])
 (.ret))
 (.skip)))
 (.seq
 (.reg [o1 10 (.load true 2 (.t 3)),
 ⟨none,.store 2 (.t 4) (.t 10),none⟩] [4])
 (.ret)))
def c60:SF:=⟨11,[.cell 4 true 2],b60,none⟩
def h61:Hints:=⟨[(0,[2,3,4]),(1,[2,3,4,8]),(2,[4]),(3,[4])],[]⟩
def b61:C :=
 .seq
 (.reg [o1 2 (.box 26 (.t 0)),
 o1 3 (.box 26 (.t 1)),
 o1 4 (.alloc 26 [(.s []),(.s [])])] [2,3,4])
 (.seq
 (.seq
 (.reg [o1 5 (.load true 2 (.t 2)),
 o1 6 (.load true 2 (.t 3)),
 o1 7 (.call false (.f 94) [(.t 5),(.t 6)]),
 o1 8 (.bin .geq (.t 7) (.c (.i .i64 0)))] [2,3,4,8])
 (.cond (.t 8)
 (.seq
 (.reg [o1 9 (.load true 2 (.t 2)),
 ⟨none,.store 2 (.t 4) (.t 9),none⟩] [4])
 (.ret))
 (.skip)))
 (.seq
 (.reg [o1 10 (.load true 2 (.t 3)),
 ⟨none,.store 2 (.t 4) (.t 10),none⟩] [4])
 (.ret)))
def c61:SF:=⟨11,[.cell 4 true 2],b61,none⟩
def h63:Hints:=⟨[(0,[2,3,4]),(1,[2,3,4,6]),(2,[2,3,4,6,7]),(3,[2,3,4,21]),(4,[4,5]),(5,[2,3,4,8,9]),(6,[4,8,9,10,11]),(7,[4,8,10,44]),(8,[4,5]),(9,[4,5])],[]⟩
def b63:C :=
 .seq
 (.reg [o1 2 (.box 26 (.t 0)),
 o1 3 (.box 26 (.t 1)),
 o1 4 (.alloc 26 [(.s []),(.s [])]),
 o1 5 (.move (.c (.i .i64 0)))] [2,3,4])
 (.seq
 (.reg [o1 12 (.load true 2 (.t 2)),
 o1 13 (.call false (.f 30) [(.t 12)]),
 mv 6 13] [2,3,4,6])
 (.seq
 (.reg [o1 14 (.load true 2 (.t 3)),
 o1 15 (.call false (.f 30) [(.t 14)]),
 mv 7 15] [2,3,4,6,7])
 (.seq
 (.seq
 (.reg [mv 16 6,
 o1 17 (.un .not (.t 16)),
 mv 18 17,
 ⟨(some 19),.move (.t 7),some (18,false)⟩,
 ⟨(some 20),.un .not (.t 19),some (18,false)⟩,
 o1 21 (.pick (.t 18) (.c (.b true)) (.t 20))] [2,3,4,21])
 (.cond (.t 21)
 (.seq
 (.reg [o1 22 (.build [(.s []),(.s [])] []),
 ⟨none,.store 2 (.t 4) (.t 22),none⟩,
 o1 5 (.move (.c (.i .i64 40)))] [4,5])
 (.ret))
 (.skip)))
 (.seq
 (.reg [o1 24 (.fieldAddr 0 (.t 2)),
 o1 25 (.load false 1 (.t 24)),
 o1 26 (.fieldAddr 0 (.t 3)),
 o1 27 (.load false 1 (.t 26)),
 o1 28 (.call false (.f 118) [(.t 25),(.t 27)]),
 mv 23 28,
 o1 29 (.ext (.t 23) 0),
 o1 30 (.ext (.t 23) 1),
 mv 8 29,
 mv 9 30] [2,3,4,8,9])
 (.seq
 (.reg [o1 32 (.fieldAddr 1 (.t 2)),
 o1 33 (.load false 1 (.t 32)),
 o1 34 (.fieldAddr 1 (.t 3)),
 o1 35 (.load false 1 (.t 34)),
 o1 36 (.call false (.f 118) [(.t 33),(.t 35)]),
 mv 31 36,
 o1 37 (.ext (.t 31) 0),
 o1 38 (.ext (.t 31) 1),
 mv 10 37,
 mv 11 38] [4,8,9,10,11])
 (.seq
 (.seq
 (.reg [mv 39 9,
 o1 40 (.bin .neq (.t 39) (.c (.i .i64 0))),
 mv 41 40,
 ⟨(some 42),.move (.t 11),some (41,false)⟩,
 ⟨(some 43),.bin .neq (.t 42) (.c (.i .i64 0)),some (41,false)⟩,
 o1 44 (.pick (.t 41) (.c (.b true)) (.t 43))] [4,8,10,44])
 (.cond (.t 44)
 (.seq
 (.reg [o1 45 (.build [(.s []),(.s [])] []),
 ⟨none,.store 2 (.t 4) (.t 45),none⟩,
 o1 5 (.move (.c (.i .i64 40)))] [4,5])
 (.ret))
 (.skip)))
 (.seq
 (.reg [mv 46 8,
 mv 47 10,
 o1 48 (.call false (.f 45) [(.t 46),(.t 47)]),
 o1 49 (.ext (.t 48) 0),
 o1 50 (.ext (.t 48) 1),
 ⟨none,.store 2 (.t 4) (.t 49),none⟩,
 mv 5 50] [4,5])
 (.ret))))))))
def c63:SF:=⟨51,[.cell 4 true 2,.t 5],b63,none⟩
def h64:Hints:=⟨[(0,[2,3,4]),(1,[4,6,7,8,9]),(2,[4,6,7,8,21]),(3,[4,5]),(4,[4,8,10,11]),(5,[4,8,10,30]),(6,[4,5]),(7,[4,5])],[]⟩
def b64:C :=
 .seq
 (.reg [o1 2 (.box 26 (.t 0)),
 o1 3 (.box 26 (.t 1)),
 o1 4 (.alloc 26 [(.s []),(.s [])]),
 o1 5 (.move (.c (.i .i64 0)))] [2,3,4])
 (.seq
 (.reg [o1 13 (.load true 2 (.t 2)),
 o1 14 (.load true 2 (.t 3)),
 o1 15 (.call false (.f 77) [(.t 13),(.t 14)]),
 mv 12 15,
 o1 16 (.ext (.t 12) 0),
 o1 17 (.ext (.t 12) 1),
 o1 18 (.ext (.t 12) 2),
 o1 19 (.ext (.t 12) 3),
 mv 6 16,
 mv 7 17,
 mv 8 18,
 mv 9 19] [4,6,7,8,9])
 (.seq
 (.seq
 (.reg [mv 20 9,
 o1 21 (.un .not (.t 20))] [4,6,7,8,21])
 (.cond (.t 21)
 (.seq
 (.reg [o1 22 (.build [(.s []),(.s [])] []),
 ⟨none,.store 2 (.t 4) (.t 22),none⟩,
 o1 5 (.move (.c (.i .i64 40)))] [4,5])
 (.ret))
 (.skip)))
 (.seq
 (.reg [mv 24 6,
 mv 25 7,
 o1 26 (.call false (.f 119) [(.t 24),(.t 25)]),
 mv 23 26,
 o1 27 (.ext (.t 23) 0),
 o1 28 (.ext (.t 23) 1),
 mv 10 27,
 mv 11 28] [4,8,10,11])
 (.seq
 (.seq
 (.reg [mv 29 11,
 o1 30 (.bin .neq (.t 29) (.c (.i .i64 0)))] [4,8,10,30])
 (.cond (.t 30)
 (.seq
 (.reg [o1 31 (.build [(.s []),(.s [])] []),
 ⟨none,.store 2 (.t 4) (.t 31),none⟩,
 o1 5 (.move (.c (.i .i64 40)))] [4,5])
 (.ret))
 (.skip)))
 (.seq
 (.reg [mv 32 10,
 mv 33 8,
 o1 34 (.call false (.f 45) [(.t 32),(.t 33)]),
 o1 35 (.ext (.t 34) 0),
 o1 36 (.ext (.t 34) 1),
 ⟨none,.store 2 (.t 4) (.t 35),none⟩,
 mv 5 36] [4,5])
 (.ret))))))
def c64:SF:=⟨37,[.cell 4 true 2,.t 5],b64,none⟩
def h65:Hints:=⟨[(0,[0,1,2]),(1,[1,2,3]),(2,[1,2,3]),(3,[1,2,3,4]),(4,[2,3,4,6,7]),(5,[2,3,4,6,31]),(6,[2,3,4,6]),(7,[2])],[]⟩
def b65:C :=
 .seq
 (.reg [o1 2 (.alloc 29 [(.s []),(.s []),(.s []),(.s [])])] [0,1,2])
 (.seq
 (.reg [o1 8 (.load false 1 (.t 0)),
 o1 9 (.call false (.f 66) [(.t 8)]),
 o1 3 (.alloc 85 [(.i .i64 0),(.s [])]),
 ⟨none,.store 2 (.t 3) (.t 9),none⟩] [1,2,3])
 (.seq
 (.draw [⟨0,o1 10 (.fieldAddr 0 (.t 1)),0,[]⟩,
 ⟨1,o1 11 (.load true 2 (.t 10)),0,[]⟩,
 ⟨2,o1 12 (.call false (.f 68) []),1,[1]⟩,
 ⟨3,o1 13 (.call false (.f 13) [(.t 11),(.t 12)]),1,[]⟩,
 ⟨4,o1 14 (.bin .geq (.t 13) (.c (.i .i64 0))),0,[]⟩,
 ⟨5,o1 15 (.call false (.f 67) [(.t 14)]),1,[]⟩] [1,2,3])
 (.seq
 (.reg [o1 17 (.load true 2 (.t 3)),
 o1 18 (.fieldAddr 0 (.t 1)),
 o1 19 (.load true 2 (.t 18)),
 o1 20 (.call false (.f 69) [(.t 17),(.t 19)]),
 mv 16 20,
 o1 21 (.ext (.t 16) 0),
 o1 22 (.ext (.t 16) 1),
 mv 4 21,
 mv 5 22] [1,2,3,4])
 (.seq
 (.reg [o1 24 (.load true 2 (.t 3)),
 o1 25 (.fieldAddr 2 (.t 1)),
 o1 26 (.load true 2 (.t 25)),
 o1 27 (.call false (.f 69) [(.t 24),(.t 26)]),
 mv 23 27,
 o1 28 (.ext (.t 23) 0),
 o1 29 (.ext (.t 23) 1),
 mv 6 28,
 mv 7 29] [2,3,4,6,7])
 (.seq
 (.seq
 (.reg [mv 30 7,
 o1 31 (.un .not (.t 30))] [2,3,4,6,31])
 (.cond (.t 31)
 (.reg [mv 32 6,
 o1 33 (.call false (.f 71) [(.t 32),(.c (.s [49]))]),
 o1 34 (.ext (.t 33) 0),
 o1 35 (.ext (.t 33) 1),
 o1 36 (.call false (.f 70) [(.t 34),(.t 35)]),
 mv 6 36] [2,3,4,6])
 (.skip)))
 (.seq
 (.draw [⟨0,mv 37 4,0,[]⟩,
 ⟨1,o1 38 (.fieldAddr 1 (.t 3)),0,[]⟩,
 ⟨2,o1 39 (.load false 1 (.t 38)),0,[]⟩,
 ⟨7,mv 44 6,0,[]⟩,
 ⟨8,o1 45 (.fieldAddr 1 (.t 3)),0,[]⟩,
 ⟨9,o1 46 (.load false 1 (.t 45)),0,[]⟩,
 ⟨3,o1 40 (.call false (.f 72) [(.t 37),(.t 39)]),1,[9]⟩,
 ⟨4,o1 41 (.ext (.t 40) 0),0,[]⟩,
 ⟨5,o1 42 (.ext (.t 40) 1),0,[]⟩,
 ⟨6,o1 43 (.call false (.f 51) [(.t 41),(.t 42)]),1,[9]⟩,
 ⟨10,o1 47 (.call false (.f 72) [(.t 44),(.t 46)]),1,[]⟩,
 ⟨11,o1 48 (.ext (.t 47) 0),0,[]⟩,
 ⟨12,o1 49 (.ext (.t 47) 1),0,[]⟩,
 ⟨13,o1 50 (.call false (.f 51) [(.t 48),(.t 49)]),1,[]⟩,
 ⟨14,o1 51 (.build [(.s []),(.s []),(.s []),(.s [])] [(0,2,(.t 43)),(2,2,(.t 50))]),0,[]⟩,
 ⟨15,⟨none,.store 4 (.t 2) (.t 51),none⟩,1,[]⟩] [2])
 (.ret)))))))
def c65:SF:=⟨52,[.cell 2 true 4],b65,none⟩
def h66:Hints:=⟨[(0,[0,2]),(1,[0,2]),(2,[2])],[]⟩
def b66:C :=
 .seq
 (.reg [o1 2 (.alloc 85 [(.i .i64 0),(.s [])])] [0,2])
 (.seq
 (.reg [mv 3 0,
 o1 4 (.bin .geq (.t 3) (.c (.i .i64 0))),
 mv 5 4,
 ⟨(some 6),.move (.t 0),some (5,true)⟩,
 ⟨(some 7),.bin .leq (.t 6) (.c (.i .i64 30)),some (5,true)⟩,
 o1 8 (.pick (.t 5) (.t 7) (.c (.b false))),
 o1 9 (.call false (.f 67) [(.t 8)])] [0,2])
 (.seq
 (.reg [mv 10 0,
 mv 11 0,
 o1 12 (.call false (.f 120) [(.c (.s [48])),(.t 11)]),
 o1 13 (.bin .add (.c (.s [49])) (.t 12)),
 o1 14 (.build [(.i .i64 0),(.s [])] [(0,1,(.t 10)),(1,1,(.t 13))]),
 ⟨none,.store 2 (.t 2) (.t 14),none⟩] [2])
 (.ret)))
def c66:SF:=⟨15,[.cell 2 true 2],b66,none⟩
def h67:Hints:=⟨[(0,[3]),(1,[])],[]⟩
def b67:C :=
 .seq
 (.reg [mv 2 0,
 o1 3 (.un .not (.t 2))] [3])
 (.cond (.t 3)
 (.reg [o1 4 (.load false 1 (.g 0)),
 ⟨none,.panic (.t 4),none⟩] [])
 (.skip))
def c67:SF:=⟨5,[],b67,none⟩
def h68:Hints:=⟨[(0,[0]),(1,[0])],[]⟩
def b68:C :=
 .seq
 (.reg [o1 0 (.alloc 26 [(.s []),(.s [])])] [0])
 (.seq
 (.reg [o1 1 (.build [(.s []),(.s [])] [(0,1,(.c (.s [48]))),(1,1,(.c (.s [49])))]),
 ⟨none,.store 2 (.t 0) (.t 1),none⟩] [0])
 (.ret))
def c68:SF:=⟨2,[.cell 0 true 2],b68,none⟩
def h69:Hints:=⟨[(0,[2,3]),(1,[3,6]),(2,[7,8,9]),(3,[7,8]),(4,[7,8,10]),(5,[4,5])],[]⟩
def b69:C :=
 .seq
 (.reg [o1 2 (.box 85 (.t 0)),
 o1 3 (.box 26 (.t 1)),
 o1 4 (.move (.c (.s []))),
 o1 5 (.move (.c (.b false)))] [2,3])
 (.seq
 (.draw [⟨0,o1 11 (.fieldAddr 0 (.t 3)),0,[]⟩,
 ⟨1,o1 12 (.load false 1 (.t 11)),0,[]⟩,
 ⟨2,o1 13 (.fieldAddr 1 (.t 2)),0,[]⟩,
 ⟨3,o1 14 (.load false 1 (.t 13)),0,[]⟩,
 ⟨8,o1 19 (.fieldAddr 1 (.t 2)),0,[]⟩,
 ⟨9,o1 20 (.load false 1 (.t 19)),0,[]⟩,
 ⟨4,o1 15 (.call false (.f 115) [(.t 12),(.t 14)]),1,[9]⟩,
 ⟨5,o1 16 (.ext (.t 15) 0),0,[]⟩,
 ⟨6,o1 17 (.ext (.t 15) 1),0,[]⟩,
 ⟨7,o1 18 (.call false (.f 70) [(.t 16),(.t 17)]),1,[9]⟩,
 ⟨10,o1 21 (.call false (.f 115) [(.t 18),(.t 20)]),1,[]⟩,
 ⟨11,o1 22 (.ext (.t 21) 0),0,[]⟩,
 ⟨12,o1 23 (.ext (.t 21) 1),0,[]⟩,
 ⟨13,o1 24 (.call false (.f 70) [(.t 22),(.t 23)]),1,[]⟩,
 ⟨14,mv 6 24,0,[]⟩] [3,6])
 (.seq
 (.reg [mv 26 6,
 o1 27 (.fieldAddr 1 (.t 3)),
 o1 28 (.load false 1 (.t 27)),
 o1 29 (.call false (.f 47) [(.t 26),(.t 28)]),
 mv 25 29,
 o1 30 (.ext (.t 25) 0),
 o1 31 (.ext (.t 25) 1),
 o1 32 (.ext (.t 25) 2),
 mv 7 30,
 mv 8 31,
 mv 9 32] [7,8,9])
 (.seq
 (.reg [mv 33 9,
 o1 34 (.bin .eql (.t 33) (.c (.i .i64 0))),
 o1 35 (.call false (.f 67) [(.t 34)])] [7,8])
 (.seq
 (.reg [mv 36 7,
 o1 37 (.call false (.f 121) [(.t 36)]),
 o1 38 (.ext (.t 37) 0),
 o1 39 (.ext (.t 37) 1),
 o1 40 (.call false (.f 70) [(.t 38),(.t 39)]),
 mv 10 40] [7,8,10])
 (.seq
 (.reg [mv 41 10,
 mv 42 8,
 o1 43 (.bin .eql (.t 42) (.c (.s [48]))),
 mv 44 43,
 ⟨(some 45),.move (.t 10),some (44,true)⟩,
 ⟨(some 46),.move (.t 10),some (44,true)⟩,
 ⟨(some 47),.call false (.f 115) [(.t 45),(.t 46)],some (44,true)⟩,
 ⟨(some 48),.ext (.t 47) 0,some (44,true)⟩,
 ⟨(some 49),.ext (.t 47) 1,some (44,true)⟩,
 ⟨(some 50),.call false (.f 70) [(.t 48),(.t 49)],some (44,true)⟩,
 ⟨(some 51),.move (.t 7),some (44,true)⟩,
 ⟨(some 52),.bin .eql (.t 50) (.t 51),some (44,true)⟩,
 o1 53 (.pick (.t 44) (.t 52) (.c (.b false))),
 mv 4 41,
 mv 5 53] [4,5])
 (.ret))))))
def c69:SF:=⟨54,[.t 4,.t 5],b69,none⟩
def h70:Hints:=⟨[(0,[0,1]),(1,[0]),(2,[4])],[]⟩
def b70:C :=
 .seq
 (.reg [o1 4 (.move (.c (.s [])))] [0,1])
 (.seq
 (.reg [mv 5 1,
 o1 6 (.bin .eql (.t 5) (.c (.i .i64 0))),
 o1 7 (.call false (.f 67) [(.t 6)])] [0])
 (.seq
 (.reg [mv 8 0,
 mv 4 8] [4])
 (.ret)))
def c70:SF:=⟨9,[.t 4],b70,none⟩
def h71:Hints:=⟨[(0,[0,1]),(1,[6,7,8]),(2,[6,7,17]),(3,[4,5]),(4,[4,5])],[]⟩
def b71:C :=
 .seq
 (.reg [o1 4 (.move (.c (.s []))),
 o1 5 (.move (.c (.i .i64 0)))] [0,1])
 (.seq
 (.reg [mv 10 0,
 mv 11 1,
 o1 12 (.call false (.f 101) [(.t 10),(.t 11)]),
 mv 9 12,
 o1 13 (.ext (.t 9) 0),
 o1 14 (.ext (.t 9) 1),
 o1 15 (.ext (.t 9) 2),
 o1 6 (.alloc 103 [(.b false),(.ls [])]),
 o1 7 (.alloc 103 [(.b false),(.ls [])]),
 ⟨none,.store 2 (.t 6) (.t 13),none⟩,
 ⟨none,.store 2 (.t 7) (.t 14),none⟩,
 mv 8 15] [6,7,8])
 (.seq
 (.seq
 (.reg [mv 16 8,
 o1 17 (.un .not (.t 16))] [6,7,17])
 (.cond (.t 17)
 (.seq
 (.reg [o1 4 (.move (.c (.s []))),
 o1 5 (.move (.c (.i .i64 30)))] [4,5])
 (.ret))
 (.skip)))
 (.seq
 (.reg [o1 18 (.load true 2 (.t 6)),
 o1 19 (.load true 2 (.t 7)),
 o1 20 (.call false (.f 117) [(.t 18),(.t 19)]),
 o1 21 (.call false (.f 106) [(.t 20)]),
 o1 22 (.ext (.t 21) 0),
 o1 23 (.ext (.t 21) 1),
 mv 4 22,
 mv 5 23] [4,5])
 (.ret))))
def c71:SF:=⟨24,[.t 4,.t 5],b71,none⟩
def h72:Hints:=⟨[(0,[0,1,4]),(1,[0,1,4,6]),(2,[4,5])],[]⟩
def b72:C :=
 .seq
 (.reg [o1 4 (.alloc 26 [(.s []),(.s [])]),
 o1 5 (.move (.c (.i .i64 0)))] [0,1,4])
 (.seq
 (.reg [mv 7 0,
 o1 8 (.call false (.f 99) [(.t 7)]),
 o1 9 (.un .not (.t 8)),
 mv 10 9,
 ⟨(some 11),.move (.t 1),some (10,false)⟩,
 ⟨(some 12),.call false (.f 99) [(.t 11)],some (10,false)⟩,
 ⟨(some 13),.un .not (.t 12),some (10,false)⟩,
 o1 14 (.pick (.t 10) (.c (.b true)) (.t 13)),
 o1 15 (.build [(.b false)] [(0,1,(.t 14))]),
 o1 16 (.box 78 (.t 15)),
 mv 6 16] [0,1,4,6])
 (.seq
 (.reg [mv 17 6,
 mv 18 0,
 mv 19 1,
 o1 20 (.call false (.f 57) [(.t 17),(.t 18),(.t 19)]),
 o1 21 (.ext (.t 20) 0),
 o1 22 (.ext (.t 20) 1),
 ⟨none,.store 2 (.t 4) (.t 21),none⟩,
 mv 5 22] [4,5])
 (.ret)))
def c72:SF:=⟨23,[.cell 4 true 2,.t 5],b72,none⟩
def h73:Hints:=⟨[(0,[0,1,2]),(1,[2,3]),(2,[2,3]),(3,[2])],[]⟩
def b73:C :=
 .seq
 (.reg [o1 2 (.alloc 29 [(.s []),(.s []),(.s []),(.s [])])] [0,1,2])
 (.seq
 (.draw [⟨0,o1 4 (.fieldAddr 0 (.t 0)),0,[]⟩,
 ⟨1,o1 5 (.load true 2 (.t 4)),0,[]⟩,
 ⟨2,o1 6 (.fieldAddr 0 (.t 1)),0,[]⟩,
 ⟨3,o1 7 (.load true 2 (.t 6)),0,[]⟩,
 ⟨4,o1 8 (.bslice false 26 2 [(.s []),(.s [])] 2 [(0,(.t 5)),(1,(.t 7))]),0,[]⟩,
 ⟨7,o1 11 (.fieldAddr 2 (.t 0)),0,[]⟩,
 ⟨8,o1 12 (.load true 2 (.t 11)),0,[]⟩,
 ⟨9,o1 13 (.fieldAddr 2 (.t 1)),0,[]⟩,
 ⟨10,o1 14 (.load true 2 (.t 13)),0,[]⟩,
 ⟨11,o1 15 (.bslice false 26 2 [(.s []),(.s [])] 2 [(0,(.t 12)),(1,(.t 14))]),0,[]⟩,
 ⟨5,o1 9 (.call false (.f 74) [(.t 8)]),1,[10,8]⟩,
 ⟨6,o1 10 (.field true 2 2 (.t 9)),0,[]⟩,
 ⟨12,o1 16 (.call false (.f 74) [(.t 15)]),1,[]⟩,
 ⟨13,o1 17 (.field true 2 0 (.t 16)),0,[]⟩,
 ⟨14,o1 18 (.build [(.s []),(.s []),(.s []),(.s [])] [(0,2,(.t 10)),(2,2,(.t 17))]),0,[]⟩,
 ⟨15,o1 3 (.alloc 29 [(.s []),(.s []),(.s []),(.s [])]),2,[]⟩,
 ⟨16,⟨none,.store 4 (.t 3) (.t 18),none⟩,1,[]⟩] [2,3])
 (.seq
 (.reg [o1 19 (.load true 4 (.t 3)),
 o1 20 (.call false (.f 35) [(.t 19)]),
 o1 21 (.call false (.f 67) [(.t 20)])] [2,3])
 (.seq
 (.reg [o1 22 (.load true 4 (.t 3)),
 ⟨none,.store 4 (.t 2) (.t 22),none⟩] [2])
 (.ret))))
def c73:SF:=⟨23,[.cell 2 true 4],b73,none⟩
def h74:Hints:=⟨[(0,[0,2]),(1,[2])],[]⟩
def b74:C :=
 .seq
 (.reg [o1 2 (.alloc 29 [(.s []),(.s []),(.s []),(.s [])])] [0,2])
 (.seq
 (.reg [mv 3 0,
 o1 4 (.call false (.f 122) [(.t 3),(.f 13)]),
 mv 5 0,
 o1 6 (.call false (.f 123) [(.t 5),(.f 13)]),
 o1 7 (.build [(.s []),(.s []),(.s []),(.s [])] [(0,2,(.t 4)),(2,2,(.t 6))]),
 ⟨none,.store 4 (.t 2) (.t 7),none⟩] [2])
 (.ret))
def c74:SF:=⟨8,[.cell 2 true 4],b74,none⟩
def h75:Hints:=⟨[(0,[0,1,2]),(1,[2])],[]⟩
def b75:C :=
 .seq
 (.reg [o1 2 (.alloc 29 [(.s []),(.s []),(.s []),(.s [])])] [0,1,2])
 (.seq
 (.reg [o1 3 (.fieldAddr 0 (.t 0)),
 o1 4 (.load true 2 (.t 3)),
 o1 5 (.fieldAddr 2 (.t 0)),
 o1 6 (.load true 2 (.t 5)),
 o1 7 (.fieldAddr 0 (.t 1)),
 o1 8 (.load true 2 (.t 7)),
 o1 9 (.fieldAddr 2 (.t 1)),
 o1 10 (.load true 2 (.t 9)),
 o1 11 (.bslice false 26 2 [(.s []),(.s [])] 4 [(0,(.t 4)),(1,(.t 6)),(2,(.t 8)),(3,(.t 10))]),
 o1 12 (.call false (.f 74) [(.t 11)]),
 ⟨none,.store 4 (.t 2) (.t 12),none⟩] [2])
 (.ret))
def c75:SF:=⟨13,[.cell 2 true 4],b75,none⟩
def h76:Hints:=⟨[(0,[0]),(1,[2])],[]⟩
def b76:C :=
 .seq
 (.reg [o1 2 (.move (.c (.s [])))] [0])
 (.seq
 (.reg [mv 3 0,
 mv 4 0,
 o1 5 (.len true (.t 4)),
 o1 6 (.mm false [(.t 5),(.c (.i .i64 210))]),
 o1 7 (.slS (.t 3) none (some (.t 6))),
 mv 2 7] [2])
 (.ret))
def c76:SF:=⟨8,[.t 2],b76,none⟩
def h77:Hints:=⟨[(0,[2,3]),(1,[2,3,8]),(2,[2,3,8,9]),(3,[2,3,25]),(4,[4,5,6,7]),(5,[2,3,10,11]),(6,[2,3,10,11,12,13]),(7,[10,11,12,13,14,15]),(8,[4,5,6,7])],[]⟩
def b77:C :=
 .seq
 (.reg [o1 2 (.box 26 (.t 0)),
 o1 3 (.box 26 (.t 1)),
 o1 4 (.move (.c (.s []))),
 o1 5 (.move (.c (.s []))),
 o1 6 (.move (.c (.s []))),
 o1 7 (.move (.c (.b false)))] [2,3])
 (.seq
 (.reg [o1 16 (.load true 2 (.t 2)),
 o1 17 (.call false (.f 30) [(.t 16)]),
 mv 8 17] [2,3,8])
 (.seq
 (.reg [o1 18 (.load true 2 (.t 3)),
 o1 19 (.call false (.f 30) [(.t 18)]),
 mv 9 19] [2,3,8,9])
 (.seq
 (.seq
 (.reg [mv 20 8,
 o1 21 (.un .not (.t 20)),
 mv 22 21,
 ⟨(some 23),.move (.t 9),some (22,false)⟩,
 ⟨(some 24),.un .not (.t 23),some (22,false)⟩,
 o1 25 (.pick (.t 22) (.c (.b true)) (.t 24))] [2,3,25])
 (.cond (.t 25)
 (.seq
 (.reg [o1 4 (.move (.c (.s []))),
 o1 5 (.move (.c (.s []))),
 o1 6 (.move (.c (.s []))),
 o1 7 (.move (.c (.b false)))] [4,5,6,7])
 (.ret))
 (.skip)))
 (.seq
 (.reg [o1 27 (.fieldAddr 0 (.t 2)),
 o1 28 (.load false 1 (.t 27)),
 o1 29 (.fieldAddr 1 (.t 3)),
 o1 30 (.load false 1 (.t 29)),
 o1 31 (.call false (.f 118) [(.t 28),(.t 30)]),
 mv 26 31,
 o1 32 (.ext (.t 26) 0),
 o1 33 (.ext (.t 26) 1),
 mv 10 32,
 mv 11 33] [2,3,10,11])
 (.seq
 (.reg [o1 35 (.fieldAddr 0 (.t 3)),
 o1 36 (.load false 1 (.t 35)),
 o1 37 (.fieldAddr 1 (.t 2)),
 o1 38 (.load false 1 (.t 37)),
 o1 39 (.call false (.f 118) [(.t 36),(.t 38)]),
 mv 34 39,
 o1 40 (.ext (.t 34) 0),
 o1 41 (.ext (.t 34) 1),
 mv 12 40,
 mv 13 41] [2,3,10,11,12,13])
 (.seq
 (.reg [o1 43 (.fieldAddr 1 (.t 2)),
 o1 44 (.load false 1 (.t 43)),
 o1 45 (.fieldAddr 1 (.t 3)),
 o1 46 (.load false 1 (.t 45)),
 o1 47 (.call false (.f 118) [(.t 44),(.t 46)]),
 mv 42 47,
 o1 48 (.ext (.t 42) 0),
 o1 49 (.ext (.t 42) 1),
 mv 14 48,
 mv 15 49] [10,11,12,13,14,15])
 (.seq
 (.reg [mv 50 10,
 mv 51 12,
 mv 52 14,
 mv 53 11,
 o1 54 (.bin .eql (.t 53) (.c (.i .i64 0))),
 mv 55 54,
 ⟨(some 56),.move (.t 13),some (55,true)⟩,
 ⟨(some 57),.bin .eql (.t 56) (.c (.i .i64 0)),some (55,true)⟩,
 o1 58 (.pick (.t 55) (.t 57) (.c (.b false))),
 mv 59 58,
 ⟨(some 60),.move (.t 15),some (59,true)⟩,
 ⟨(some 61),.bin .eql (.t 60) (.c (.i .i64 0)),some (59,true)⟩,
 o1 62 (.pick (.t 59) (.t 61) (.c (.b false))),
 mv 4 50,
 mv 5 51,
 mv 6 52,
 mv 7 62] [4,5,6,7])
 (.ret))))))))
def c77:SF:=⟨63,[.t 4,.t 5,.t 6,.t 7],b77,none⟩
def h78:Hints:=⟨[(0,[0,1]),(1,[0,1,17]),(2,[4,5]),(3,[1,6,7]),(4,[6,7,8,9]),(5,[4,5])],[]⟩
def b78:C :=
 .seq
 (.reg [o1 4 (.move (.c (.s []))),
 o1 5 (.move (.c (.i .i64 0)))] [0,1])
 (.seq
 (.seq
 (.reg [mv 10 0,
 o1 11 (.call false (.f 79) [(.t 10)]),
 o1 12 (.un .not (.t 11)),
 mv 13 12,
 ⟨(some 14),.move (.t 1),some (13,false)⟩,
 ⟨(some 15),.call false (.f 79) [(.t 14)],some (13,false)⟩,
 ⟨(some 16),.un .not (.t 15),some (13,false)⟩,
 o1 17 (.pick (.t 13) (.c (.b true)) (.t 16))] [0,1,17])
 (.cond (.t 17)
 (.seq
 (.reg [o1 4 (.move (.c (.s []))),
 o1 5 (.move (.c (.i .i64 30)))] [4,5])
 (.ret))
 (.skip)))
 (.seq
 (.reg [mv 19 0,
 o1 20 (.call false (.f 124) [(.t 19)]),
 mv 18 20,
 o1 21 (.ext (.t 18) 0),
 o1 22 (.ext (.t 18) 1),
 mv 6 21,
 mv 7 22] [1,6,7])
 (.seq
 (.reg [mv 24 1,
 o1 25 (.call false (.f 124) [(.t 24)]),
 mv 23 25,
 o1 26 (.ext (.t 23) 0),
 o1 27 (.ext (.t 23) 1),
 mv 8 26,
 mv 9 27] [6,7,8,9])
 (.seq
 (.reg [mv 28 6,
 mv 29 7,
 mv 30 8,
 o1 31 (.un .not (.t 30)),
 mv 32 9,
 o1 33 (.call false (.f 125) [(.t 28),(.t 29),(.t 31),(.t 32)]),
 o1 34 (.ext (.t 33) 0),
 o1 35 (.ext (.t 33) 1),
 mv 4 34,
 mv 5 35] [4,5])
 (.ret)))))
def c78:SF:=⟨36,[.t 4,.t 5],b78,none⟩
def h79:Hints:=⟨[(0,[0]),(1,[0,11]),(2,[0]),(3,[0,15]),(4,[2]),(5,[0,3]),(6,[0,3,19]),(8,[0,3,31]),(9,[2]),(7,[0,3]),(10,[2])],[]⟩
def l79_0:C :=
 .seq
 (.seq
 (.reg [mv 16 3,
 mv 17 0,
 o1 18 (.len true (.t 17)),
 o1 19 (.bin .lss (.t 16) (.t 18))] [0,3,19])
 (.cond (.t 19)
 (.skip)
 (.exit 0)))
 (.seq
 (.block 1 (.seq
 (.reg [mv 22 0,
 mv 23 3,
 o1 24 (.ixStr (.t 22) (.t 23)),
 o1 25 (.bin .lss (.t 24) (.c (.i .u8 48))),
 mv 26 25,
 ⟨(some 27),.move (.t 0),some (26,false)⟩,
 ⟨(some 28),.move (.t 3),some (26,false)⟩,
 ⟨(some 29),.ixStr (.t 27) (.t 28),some (26,false)⟩,
 ⟨(some 30),.bin .gtr (.t 29) (.c (.i .u8 57)),some (26,false)⟩,
 o1 31 (.pick (.t 26) (.c (.b true)) (.t 30))] [0,3,31])
 (.cond (.t 31)
 (.seq
 (.reg [o1 2 (.move (.c (.b false)))] [2])
 (.ret))
 (.skip))))
 (.reg [mv 20 3,
 o1 21 (.bin .add (.t 20) (.c (.i .i64 1))),
 mv 3 21] [0,3]))
def b79:C :=
 .seq
 (.reg [o1 2 (.move (.c (.b false)))] [0])
 (.seq
 (.seq
 (.reg [mv 4 0,
 o1 5 (.len true (.t 4)),
 o1 6 (.bin .gtr (.t 5) (.c (.i .i64 0))),
 mv 7 6,
 ⟨(some 8),.move (.t 0),some (7,true)⟩,
 ⟨(some 9),.ixStr (.t 8) (.c (.i .i64 0)),some (7,true)⟩,
 ⟨(some 10),.bin .eql (.t 9) (.c (.i .u8 45)),some (7,true)⟩,
 o1 11 (.pick (.t 7) (.t 10) (.c (.b false)))] [0,11])
 (.cond (.t 11)
 (.seq
 (.reg [mv 12 0,
 o1 13 (.slS (.t 12) (some (.c (.i .i64 1))) none),
 mv 0 13] [0])
 (.seq
 (.reg [mv 14 0,
 o1 15 (.bin .eql (.t 14) (.c (.s [48])))] [0,15])
 (.cond (.t 15)
 (.seq
 (.reg [o1 2 (.move (.c (.b false)))] [2])
 (.ret))
 (.skip))))
 (.skip)))
 (.seq
 (.seq
 (.reg [o1 3 (.move (.c (.i .i64 0)))] [0,3])
 (.block 0 (.loop l79_0)))
 (.seq
 (.reg [mv 32 0,
 o1 33 (.len true (.t 32)),
 o1 34 (.bin .gtr (.t 33) (.c (.i .i64 0))),
 mv 35 34,
 ⟨(some 36),.move (.t 0),some (35,true)⟩,
 ⟨(some 37),.len true (.t 36),some (35,true)⟩,
 ⟨(some 38),.bin .leq (.t 37) (.c (.i .i64 200)),some (35,true)⟩,
 o1 39 (.pick (.t 35) (.t 38) (.c (.b false))),
 mv 40 39,
 ⟨(some 41),.move (.t 0),some (40,true)⟩,
 ⟨(some 42),.bin .eql (.t 41) (.c (.s [48])),some (40,true)⟩,
 ⟨(some 43),.move (.t 42),some (40,true)⟩,
 ⟨(some 44),.move (.t 0),some (43,false)⟩,
 ⟨(some 45),.ixStr (.t 44) (.c (.i .i64 0)),some (43,false)⟩,
 ⟨(some 46),.bin .neq (.t 45) (.c (.i .u8 48)),some (43,false)⟩,
 ⟨(some 47),.pick (.t 43) (.c (.b true)) (.t 46),some (40,true)⟩,
 o1 48 (.pick (.t 40) (.t 47) (.c (.b false))),
 mv 2 48] [2])
 (.ret))))
def c79:SF:=⟨49,[.t 2],b79,none⟩
def h80:Hints:=⟨[(0,[0,1]),(1,[0,1,16]),(2,[4]),(3,[1,5,6]),(4,[5,6,7,8]),(5,[5,6,8,29]),(6,[30]),(7,[4]),(8,[4]),(9,[6,8,31]),(10,[4]),(11,[4])],[]⟩
def b80:C :=
 .seq
 (.reg [o1 4 (.move (.c (.i .i64 0)))] [0,1])
 (.seq
 (.seq
 (.reg [mv 9 0,
 o1 10 (.call false (.f 79) [(.t 9)]),
 o1 11 (.un .not (.t 10)),
 mv 12 11,
 ⟨(some 13),.move (.t 1),some (12,false)⟩,
 ⟨(some 14),.call false (.f 79) [(.t 13)],some (12,false)⟩,
 ⟨(some 15),.un .not (.t 14),some (12,false)⟩,
 o1 16 (.pick (.t 12) (.c (.b true)) (.t 15))] [0,1,16])
 (.cond (.t 16)
 (.seq
 (.reg [o1 4 (.move (.c (.i .i64 0)))] [4])
 (.ret))
 (.skip)))
 (.seq
 (.reg [mv 18 0,
 o1 19 (.call false (.f 124) [(.t 18)]),
 mv 17 19,
 o1 20 (.ext (.t 17) 0),
 o1 21 (.ext (.t 17) 1),
 mv 5 20,
 mv 6 21] [1,5,6])
 (.seq
 (.reg [mv 23 1,
 o1 24 (.call false (.f 124) [(.t 23)]),
 mv 22 24,
 o1 25 (.ext (.t 22) 0),
 o1 26 (.ext (.t 22) 1),
 mv 7 25,
 mv 8 26] [5,6,7,8])
 (.seq
 (.seq
 (.reg [mv 27 5,
 mv 28 7,
 o1 29 (.eqB true (.t 27) (.t 28))] [5,6,8,29])
 (.cond (.t 29)
 (.seq
 (.seq
 (.reg [mv 30 5] [30])
 (.cond (.t 30)
 (.seq
 (.reg [o1 4 (.move (.c (.i .i64 (-1))))] [4])
 (.ret))
 (.skip)))
 (.seq
 (.reg [o1 4 (.move (.c (.i .i64 1)))] [4])
 (.ret)))
 (.skip)))
 (.seq
 (.seq
 (.reg [mv 31 5] [6,8,31])
 (.cond (.t 31)
 (.seq
 (.reg [mv 32 8,
 mv 33 6,
 o1 34 (.call false (.f 126) [(.t 32),(.t 33)]),
 mv 4 34] [4])
 (.ret))
 (.skip)))
 (.seq
 (.reg [mv 35 6,
 mv 36 8,
 o1 37 (.call false (.f 126) [(.t 35),(.t 36)]),
 mv 4 37] [4])
 (.ret)))))))
def c80:SF:=⟨38,[.t 4],b80,none⟩
def h81:Hints:=⟨[(0,[0,1]),(1,[0,1,19]),(2,[4,5]),(3,[1,7]),(4,[7,9]),(5,[7,9,32]),(6,[9,11]),(7,[7,11]),(8,[7,9]),(9,[4,5])],[]⟩
def l81_0:C :=
 .seq
 (.seq
 (.reg [mv 30 9,
 o1 31 (.len false (.t 30)),
 o1 32 (.bin .gtr (.t 31) (.c (.i .i64 0)))] [7,9,32])
 (.cond (.t 32)
 (.skip)
 (.exit 0)))
 (.block 1 (.seq
 (.reg [mv 34 7,
 mv 35 9,
 o1 36 (.call false (.f 127) [(.t 34),(.t 35)]),
 mv 33 36,
 o1 37 (.ext (.t 33) 0),
 o1 38 (.ext (.t 33) 1),
 mv 10 37,
 mv 11 38] [9,11])
 (.seq
 (.reg [mv 39 9,
 mv 7 39] [7,11])
 (.reg [mv 40 11,
 mv 9 40] [7,9]))))
def b81:C :=
 .seq
 (.reg [o1 4 (.move (.c (.s []))),
 o1 5 (.move (.c (.i .i64 0)))] [0,1])
 (.seq
 (.seq
 (.reg [mv 12 0,
 o1 13 (.call false (.f 79) [(.t 12)]),
 o1 14 (.un .not (.t 13)),
 mv 15 14,
 ⟨(some 16),.move (.t 1),some (15,false)⟩,
 ⟨(some 17),.call false (.f 79) [(.t 16)],some (15,false)⟩,
 ⟨(some 18),.un .not (.t 17),some (15,false)⟩,
 o1 19 (.pick (.t 15) (.c (.b true)) (.t 18))] [0,1,19])
 (.cond (.t 19)
 (.seq
 (.reg [o1 4 (.move (.c (.s []))),
 o1 5 (.move (.c (.i .i64 30)))] [4,5])
 (.ret))
 (.skip)))
 (.seq
 (.reg [mv 21 0,
 o1 22 (.call false (.f 124) [(.t 21)]),
 mv 20 22,
 o1 23 (.ext (.t 20) 0),
 o1 24 (.ext (.t 20) 1),
 mv 6 23,
 mv 7 24] [1,7])
 (.seq
 (.reg [mv 26 1,
 o1 27 (.call false (.f 124) [(.t 26)]),
 mv 25 27,
 o1 28 (.ext (.t 25) 0),
 o1 29 (.ext (.t 25) 1),
 mv 8 28,
 mv 9 29] [7,9])
 (.seq
 (.block 0 (.loop l81_0))
 (.seq
 (.reg [mv 41 7,
 o1 42 (.call false (.f 128) [(.c (.b false)),(.t 41)]),
 o1 43 (.ext (.t 42) 0),
 o1 44 (.ext (.t 42) 1),
 mv 4 43,
 mv 5 44] [4,5])
 (.ret))))))
def c81:SF:=⟨45,[.t 4,.t 5],b81,none⟩
def h82:Hints:=⟨[(0,[2,3,4]),(1,[2,3,4,6]),(2,[4,5])],[]⟩
def b82:C :=
 .seq
 (.reg [o1 2 (.box 29 (.t 0)),
 o1 3 (.box 29 (.t 1)),
 o1 4 (.alloc 29 [(.s []),(.s []),(.s []),(.s [])]),
 o1 5 (.move (.c (.i .i64 0)))] [2,3,4])
 (.seq
 (.reg [o1 6 (.alloc 99 [.nilf]),
 ⟨none,.store 1 (.t 6) (.f 24),none⟩] [2,3,4,6])
 (.seq
 (.reg [o1 7 (.mkF 129 [] [(.t 6),(.t 2),(.t 3)]),
 o1 8 (.load true 4 (.t 2)),
 o1 9 (.load true 4 (.t 3)),
 o1 10 (.bslice false 29 4 [(.s []),(.s []),(.s []),(.s [])] 2 [(0,(.t 8)),(1,(.t 9))]),
 o1 11 (.call false (.f 49) [(.t 7),(.t 10)]),
 o1 12 (.ext (.t 11) 0),
 o1 13 (.ext (.t 11) 1),
 ⟨none,.store 4 (.t 4) (.t 12),none⟩,
 mv 5 13] [4,5])
 (.ret)))
def c82:SF:=⟨14,[.cell 4 true 4,.t 5],b82,none⟩
def h83:Hints:=⟨[(0,[2,3,4]),(1,[2,3,4,6]),(2,[4,5])],[]⟩
def b83:C :=
 .seq
 (.reg [o1 2 (.box 29 (.t 0)),
 o1 3 (.box 29 (.t 1)),
 o1 4 (.alloc 29 [(.s []),(.s []),(.s []),(.s [])]),
 o1 5 (.move (.c (.i .i64 0)))] [2,3,4])
 (.seq
 (.reg [o1 6 (.alloc 99 [.nilf]),
 ⟨none,.store 1 (.t 6) (.f 18),none⟩] [2,3,4,6])
 (.seq
 (.reg [o1 7 (.mkF 131 [] [(.t 6),(.t 2),(.t 3)]),
 o1 8 (.load true 4 (.t 2)),
 o1 9 (.load true 4 (.t 3)),
 o1 10 (.bslice false 29 4 [(.s []),(.s []),(.s []),(.s [])] 2 [(0,(.t 8)),(1,(.t 9))]),
 o1 11 (.call false (.f 49) [(.t 7),(.t 10)]),
 o1 12 (.ext (.t 11) 0),
 o1 13 (.ext (.t 11) 1),
 ⟨none,.store 4 (.t 4) (.t 12),none⟩,
 mv 5 13] [4,5])
 (.ret)))
def c83:SF:=⟨14,[.cell 4 true 4,.t 5],b83,none⟩
def h84:Hints:=⟨[(0,[2,3,4]),(1,[2,3,4,6]),(2,[2,3,4,15]),(3,[4,5]),(4,[2,3,4,7,8]),(5,[4,7,8,9,10]),(6,[4,5])],[]⟩
def b84:C :=
 .seq
 (.reg [o1 2 (.box 29 (.t 0)),
 o1 3 (.box 29 (.t 1)),
 o1 4 (.alloc 29 [(.s []),(.s []),(.s []),(.s [])]),
 o1 5 (.move (.c (.i .i64 0)))] [2,3,4])
 (.seq
 (.reg [o1 11 (.load true 4 (.t 2)),
 o1 12 (.load true 4 (.t 3)),
 o1 13 (.call false (.f 132) [(.t 11),(.t 12)]),
 mv 6 13] [2,3,4,6])
 (.seq
 (.seq
 (.reg [mv 14 6,
 o1 15 (.un .not (.t 14))] [2,3,4,15])
 (.cond (.t 15)
 (.seq
 (.reg [o1 16 (.build [(.s []),(.s []),(.s []),(.s [])] []),
 ⟨none,.store 4 (.t 4) (.t 16),none⟩,
 o1 5 (.move (.c (.i .i64 50)))] [4,5])
 (.ret))
 (.skip)))
 (.seq
 (.reg [o1 18 (.fieldAddr 0 (.t 2)),
 o1 19 (.load true 2 (.t 18)),
 o1 20 (.fieldAddr 0 (.t 3)),
 o1 21 (.load true 2 (.t 20)),
 o1 22 (.call false (.f 64) [(.t 19),(.t 21)]),
 mv 17 22,
 o1 23 (.ext (.t 17) 0),
 o1 24 (.ext (.t 17) 1),
 o1 7 (.alloc 26 [(.s []),(.s [])]),
 ⟨none,.store 2 (.t 7) (.t 23),none⟩,
 mv 8 24] [2,3,4,7,8])
 (.seq
 (.reg [o1 26 (.fieldAddr 2 (.t 2)),
 o1 27 (.load true 2 (.t 26)),
 o1 28 (.fieldAddr 2 (.t 3)),
 o1 29 (.load true 2 (.t 28)),
 o1 30 (.call false (.f 64) [(.t 27),(.t 29)]),
 mv 25 30,
 o1 31 (.ext (.t 25) 0),
 o1 32 (.ext (.t 25) 1),
 o1 9 (.alloc 26 [(.s []),(.s [])]),
 ⟨none,.store 2 (.t 9) (.t 31),none⟩,
 mv 10 32] [4,7,8,9,10])
 (.seq
 (.reg [o1 33 (.load true 2 (.t 7)),
 mv 34 8,
 o1 35 (.load true 2 (.t 9)),
 mv 36 10,
 o1 37 (.call false (.f 133) [(.t 33),(.t 34),(.t 35),(.t 36)]),
 o1 38 (.ext (.t 37) 0),
 o1 39 (.ext (.t 37) 1),
 ⟨none,.store 4 (.t 4) (.t 38),none⟩,
 mv 5 39] [4,5])
 (.ret))))))
def c84:SF:=⟨40,[.cell 4 true 4,.t 5],b84,none⟩
def h85:Hints:=⟨[(0,[2,3,4]),(1,[2,3,4,6]),(2,[2,3,4,15]),(3,[4,5]),(4,[2,3,4,7,8]),(5,[4,7,8,9,10]),(6,[4,5])],[]⟩
def b85:C :=
 .seq
 (.reg [o1 2 (.box 29 (.t 0)),
 o1 3 (.box 29 (.t 1)),
 o1 4 (.alloc 29 [(.s []),(.s []),(.s []),(.s [])]),
 o1 5 (.move (.c (.i .i64 0)))] [2,3,4])
 (.seq
 (.reg [o1 11 (.load true 4 (.t 2)),
 o1 12 (.load true 4 (.t 3)),
 o1 13 (.call false (.f 132) [(.t 11),(.t 12)]),
 mv 6 13] [2,3,4,6])
 (.seq
 (.seq
 (.reg [mv 14 6,
 o1 15 (.un .not (.t 14))] [2,3,4,15])
 (.cond (.t 15)
 (.seq
 (.reg [o1 16 (.build [(.s []),(.s []),(.s []),(.s [])] []),
 ⟨none,.store 4 (.t 4) (.t 16),none⟩,
 o1 5 (.move (.c (.i .i64 50)))] [4,5])
 (.ret))
 (.skip)))
 (.seq
 (.reg [o1 18 (.fieldAddr 0 (.t 2)),
 o1 19 (.load true 2 (.t 18)),
 o1 20 (.fieldAddr 2 (.t 3)),
 o1 21 (.load true 2 (.t 20)),
 o1 22 (.call false (.f 29) [(.t 19),(.t 21)]),
 mv 17 22,
 o1 23 (.ext (.t 17) 0),
 o1 24 (.ext (.t 17) 1),
 o1 7 (.alloc 26 [(.s []),(.s [])]),
 ⟨none,.store 2 (.t 7) (.t 23),none⟩,
 mv 8 24] [2,3,4,7,8])
 (.seq
 (.reg [o1 26 (.fieldAddr 2 (.t 2)),
 o1 27 (.load true 2 (.t 26)),
 o1 28 (.fieldAddr 0 (.t 3)),
 o1 29 (.load true 2 (.t 28)),
 o1 30 (.call false (.f 29) [(.t 27),(.t 29)]),
 mv 25 30,
 o1 31 (.ext (.t 25) 0),
 o1 32 (.ext (.t 25) 1),
 o1 9 (.alloc 26 [(.s []),(.s [])]),
 ⟨none,.store 2 (.t 9) (.t 31),none⟩,
 mv 10 32] [4,7,8,9,10])
 (.seq
 (.reg [o1 33 (.load true 2 (.t 7)),
 mv 34 8,
 o1 35 (.load true 2 (.t 9)),
 mv 36 10,
 o1 37 (.call false (.f 133) [(.t 33),(.t 34),(.t 35),(.t 36)]),
 o1 38 (.ext (.t 37) 0),
 o1 39 (.ext (.t 37) 1),
 ⟨none,.store 4 (.t 4) (.t 38),none⟩,
 mv 5 39] [4,5])
 (.ret))))))
def c85:SF:=⟨40,[.cell 4 true 4,.t 5],b85,none⟩
def h86:Hints:=⟨[(0,[2,3,4]),(1,[2,3,4,6]),(2,[2,3,4,11]),(3,[4,5]),(4,[4,5])],[]⟩
def b86:C :=
 .seq
 (.reg [o1 2 (.box 29 (.t 0)),
 o1 3 (.box 29 (.t 1)),
 o1 4 (.alloc 29 [(.s []),(.s []),(.s []),(.s [])]),
 o1 5 (.move (.c (.i .i64 0)))] [2,3,4])
 (.seq
 (.reg [o1 7 (.load true 4 (.t 2)),
 o1 8 (.load true 4 (.t 3)),
 o1 9 (.call false (.f 132) [(.t 7),(.t 8)]),
 mv 6 9] [2,3,4,6])
 (.seq
 (.seq
 (.reg [mv 10 6,
 o1 11 (.un .not (.t 10))] [2,3,4,11])
 (.cond (.t 11)
 (.seq
 (.reg [o1 12 (.build [(.s []),(.s []),(.s []),(.s [])] []),
 ⟨none,.store 4 (.t 4) (.t 12),none⟩,
 o1 5 (.move (.c (.i .i64 50)))] [4,5])
 (.ret))
 (.skip)))
 (.seq
 (.reg [o1 13 (.load true 4 (.t 2)),
 o1 14 (.load true 4 (.t 3)),
 o1 15 (.call false (.f 134) [(.t 13),(.t 14),(.c (.b false))]),
 o1 16 (.ext (.t 15) 0),
 o1 17 (.ext (.t 15) 1),
 ⟨none,.store 4 (.t 4) (.t 16),none⟩,
 mv 5 17] [4,5])
 (.ret))))
def c86:SF:=⟨18,[.cell 4 true 4,.t 5],b86,none⟩
def h87:Hints:=⟨[(0,[2,3,4]),(1,[2,3,4,6]),(2,[2,3,4,6,7]),(3,[2,3,4,18]),(4,[4,5]),(5,[4,5])],[]⟩
def b87:C :=
 .seq
 (.reg [o1 2 (.box 29 (.t 0)),
 o1 3 (.box 29 (.t 1)),
 o1 4 (.alloc 29 [(.s []),(.s []),(.s []),(.s [])]),
 o1 5 (.move (.c (.i .i64 0)))] [2,3,4])
 (.seq
 (.reg [o1 8 (.load true 4 (.t 2)),
 o1 9 (.load true 4 (.t 3)),
 o1 10 (.call false (.f 132) [(.t 8),(.t 9)]),
 mv 6 10] [2,3,4,6])
 (.seq
 (.draw [⟨0,o1 11 (.load true 4 (.t 3)),0,[]⟩,
 ⟨1,o1 12 (.call false (.f 135) []),1,[0]⟩,
 ⟨2,o1 13 (.call false (.f 39) [(.t 11),(.t 12)]),1,[]⟩,
 ⟨3,mv 7 13,0,[]⟩] [2,3,4,6,7])
 (.seq
 (.seq
 (.reg [mv 14 6,
 o1 15 (.un .not (.t 14)),
 mv 16 15,
 ⟨(some 17),.move (.t 7),some (16,false)⟩,
 o1 18 (.pick (.t 16) (.c (.b true)) (.t 17))] [2,3,4,18])
 (.cond (.t 18)
 (.seq
 (.reg [o1 19 (.build [(.s []),(.s []),(.s []),(.s [])] []),
 ⟨none,.store 4 (.t 4) (.t 19),none⟩,
 o1 5 (.move (.c (.i .i64 50)))] [4,5])
 (.ret))
 (.skip)))
 (.seq
 (.reg [o1 20 (.load true 4 (.t 2)),
 o1 21 (.load true 4 (.t 3)),
 o1 22 (.call false (.f 134) [(.t 20),(.t 21),(.c (.b true))]),
 o1 23 (.ext (.t 22) 0),
 o1 24 (.ext (.t 22) 1),
 ⟨none,.store 4 (.t 4) (.t 23),none⟩,
 mv 5 24] [4,5])
 (.ret)))))
def c87:SF:=⟨25,[.cell 4 true 4,.t 5],b87,none⟩
def h88:Hints:=⟨[(0,[2,3,4]),(1,[2,3,4,6]),(2,[2,3,4,11]),(3,[4,5]),(4,[4,5])],[]⟩
def b88:C :=
 .seq
 (.reg [o1 2 (.box 29 (.t 0)),
 o1 3 (.box 29 (.t 1)),
 o1 4 (.alloc 29 [(.s []),(.s []),(.s []),(.s [])]),
 o1 5 (.move (.c (.i .i64 0)))] [2,3,4])
 (.seq
 (.reg [o1 7 (.load true 4 (.t 2)),
 o1 8 (.load true 4 (.t 3)),
 o1 9 (.call false (.f 132) [(.t 7),(.t 8)]),
 mv 6 9] [2,3,4,6])
 (.seq
 (.seq
 (.reg [mv 10 6,
 o1 11 (.un .not (.t 10))] [2,3,4,11])
 (.cond (.t 11)
 (.seq
 (.reg [o1 12 (.build [(.s []),(.s []),(.s []),(.s [])] []),
 ⟨none,.store 4 (.t 4) (.t 12),none⟩,
 o1 5 (.move (.c (.i .i64 50)))] [4,5])
 (.ret))
 (.skip)))
 (.seq
 (.draw [⟨0,o1 13 (.fieldAddr 0 (.t 2)),0,[]⟩,
 ⟨1,o1 14 (.load true 2 (.t 13)),0,[]⟩,
 ⟨2,o1 15 (.fieldAddr 0 (.t 3)),0,[]⟩,
 ⟨3,o1 16 (.load true 2 (.t 15)),0,[]⟩,
 ⟨5,o1 18 (.fieldAddr 2 (.t 2)),0,[]⟩,
 ⟨6,o1 19 (.load true 2 (.t 18)),0,[]⟩,
 ⟨7,o1 20 (.fieldAddr 2 (.t 3)),0,[]⟩,
 ⟨8,o1 21 (.load true 2 (.t 20)),0,[]⟩,
 ⟨4,o1 17 (.call false (.f 60) [(.t 14),(.t 16)]),1,[8,6]⟩,
 ⟨9,o1 22 (.call false (.f 61) [(.t 19),(.t 21)]),1,[]⟩,
 ⟨10,o1 23 (.build [(.s []),(.s []),(.s []),(.s [])] [(0,2,(.t 17)),(2,2,(.t 22))]),0,[]⟩,
 ⟨11,⟨none,.store 4 (.t 4) (.t 23),none⟩,1,[]⟩,
 ⟨12,o1 5 (.move (.c (.i .i64 0))),0,[]⟩] [4,5])
 (.ret))))
def c88:SF:=⟨24,[.cell 4 true 4,.t 5],b88,none⟩
def h89:Hints:=⟨[(0,[2,3,4]),(1,[2,3,4,6]),(2,[4,6,7]),(3,[4,7,31]),(4,[4,5]),(5,[4,5])],[]⟩
def b89:C :=
 .seq
 (.reg [o1 2 (.box 29 (.t 0)),
 o1 3 (.box 29 (.t 1)),
 o1 4 (.alloc 29 [(.s []),(.s []),(.s []),(.s [])]),
 o1 5 (.move (.c (.i .i64 0)))] [2,3,4])
 (.seq
 (.reg [o1 8 (.load true 4 (.t 2)),
 o1 9 (.load true 4 (.t 3)),
 o1 10 (.call false (.f 132) [(.t 8),(.t 9)]),
 mv 6 10] [2,3,4,6])
 (.seq
 (.draw [⟨0,o1 11 (.fieldAddr 0 (.t 2)),0,[]⟩,
 ⟨1,o1 12 (.load true 2 (.t 11)),0,[]⟩,
 ⟨2,o1 13 (.fieldAddr 0 (.t 3)),0,[]⟩,
 ⟨3,o1 14 (.load true 2 (.t 13)),0,[]⟩,
 ⟨5,o1 16 (.fieldAddr 2 (.t 2)),0,[]⟩,
 ⟨6,o1 17 (.load true 2 (.t 16)),0,[]⟩,
 ⟨7,o1 18 (.fieldAddr 2 (.t 3)),0,[]⟩,
 ⟨8,o1 19 (.load true 2 (.t 18)),0,[]⟩,
 ⟨4,o1 15 (.call false (.f 61) [(.t 12),(.t 14)]),1,[8,6]⟩,
 ⟨9,o1 20 (.call false (.f 60) [(.t 17),(.t 19)]),1,[]⟩,
 ⟨10,o1 21 (.build [(.s []),(.s []),(.s []),(.s [])] [(0,2,(.t 15)),(2,2,(.t 20))]),0,[]⟩,
 ⟨11,o1 7 (.alloc 29 [(.s []),(.s []),(.s []),(.s [])]),2,[]⟩,
 ⟨12,⟨none,.store 4 (.t 7) (.t 21),none⟩,1,[]⟩] [4,6,7])
 (.seq
 (.seq
 (.reg [mv 22 6,
 o1 23 (.un .not (.t 22)),
 mv 24 23,
 ⟨(some 25),.fieldAddr 0 (.t 7),some (24,false)⟩,
 ⟨(some 26),.load true 2 (.t 25),some (24,false)⟩,
 ⟨(some 27),.fieldAddr 2 (.t 7),some (24,false)⟩,
 ⟨(some 28),.load true 2 (.t 27),some (24,false)⟩,
 ⟨(some 29),.call false (.f 94) [(.t 26),(.t 28)],some (24,false)⟩,
 ⟨(some 30),.bin .gtr (.t 29) (.c (.i .i64 0)),some (24,false)⟩,
 o1 31 (.pick (.t 24) (.c (.b true)) (.t 30))] [4,7,31])
 (.cond (.t 31)
 (.seq
 (.reg [o1 32 (.build [(.s []),(.s []),(.s []),(.s [])] []),
 ⟨none,.store 4 (.t 4) (.t 32),none⟩,
 o1 5 (.move (.c (.i .i64 50)))] [4,5])
 (.ret))
 (.skip)))
 (.seq
 (.reg [o1 33 (.load true 4 (.t 7)),
 ⟨none,.store 4 (.t 4) (.t 33),none⟩,
 o1 5 (.move (.c (.i .i64 0)))] [4,5])
 (.ret)))))
def c89:SF:=⟨34,[.cell 4 true 4,.t 5],b89,none⟩
def h90:Hints:=⟨[(0,[1,2,4]),(1,[1,2,4,6]),(2,[1,2,4,33]),(3,[4,5]),(4,[1,2,4,7,8]),(5,[1,4,7,8,9,10]),(6,[1,4,7,9,54]),(7,[4,5]),(8,[1,4,9,11,12]),(9,[4,11,12,13,14]),(10,[4,5])],[]⟩
def b90:C :=
 .seq
 (.reg [o1 2 (.box 29 (.t 0)),
 o1 4 (.alloc 29 [(.s []),(.s []),(.s []),(.s [])]),
 o1 5 (.move (.c (.i .i64 0)))] [1,2,4])
 (.seq
 (.reg [o1 15 (.load true 4 (.t 2)),
 o1 16 (.call false (.f 36) [(.t 15)]),
 mv 6 16] [1,2,4,6])
 (.seq
 (.seq
 (.draw [⟨0,mv 17 6,0,[]⟩,
 ⟨1,o1 18 (.un .not (.t 17)),0,[]⟩,
 ⟨2,mv 19 18,0,[]⟩,
 ⟨3,⟨(some 20),.fieldAddr 0 (.t 2),some (19,false)⟩,0,[]⟩,
 ⟨4,⟨(some 21),.load true 2 (.t 20),some (19,false)⟩,0,[]⟩,
 ⟨5,⟨(some 22),.call false (.f 135) [],some (19,false)⟩,1,[4]⟩,
 ⟨6,⟨(some 23),.call false (.f 94) [(.t 21),(.t 22)],some (19,false)⟩,1,[]⟩,
 ⟨7,⟨(some 24),.bin .lss (.t 23) (.c (.i .i64 0)),some (19,false)⟩,0,[]⟩,
 ⟨8,o1 25 (.pick (.t 19) (.c (.b true)) (.t 24)),0,[]⟩,
 ⟨9,mv 26 25,0,[]⟩,
 ⟨10,⟨(some 27),.move (.t 1),some (26,false)⟩,0,[]⟩,
 ⟨11,⟨(some 28),.bin .lss (.t 27) (.c (.i .i64 0)),some (26,false)⟩,0,[]⟩,
 ⟨12,o1 29 (.pick (.t 26) (.c (.b true)) (.t 28)),0,[]⟩,
 ⟨13,mv 30 29,0,[]⟩,
 ⟨14,⟨(some 31),.move (.t 1),some (30,false)⟩,0,[]⟩,
 ⟨15,⟨(some 32),.bin .gtr (.t 31) (.c (.i .i64 30)),some (30,false)⟩,0,[]⟩,
 ⟨16,o1 33 (.pick (.t 30) (.c (.b true)) (.t 32)),0,[]⟩] [1,2,4,33])
 (.cond (.t 33)
 (.seq
 (.reg [o1 34 (.build [(.s []),(.s []),(.s []),(.s [])] []),
 ⟨none,.store 4 (.t 4) (.t 34),none⟩,
 o1 5 (.move (.c (.i .i64 50)))] [4,5])
 (.ret))
 (.skip)))
 (.seq
 (.reg [o1 36 (.fieldAddr 0 (.t 2)),
 o1 37 (.load true 2 (.t 36)),
 mv 38 1,
 o1 39 (.call false (.f 136) [(.t 37),(.t 38),(.c (.b false))]),
 mv 35 39,
 o1 40 (.ext (.t 35) 0),
 o1 41 (.ext (.t 35) 1),
 mv 7 40,
 mv 8 41] [1,2,4,7,8])
 (.seq
 (.reg [o1 43 (.fieldAddr 2 (.t 2)),
 o1 44 (.load true 2 (.t 43)),
 mv 45 1,
 o1 46 (.call false (.f 136) [(.t 44),(.t 45),(.c (.b true))]),
 mv 42 46,
 o1 47 (.ext (.t 42) 0),
 o1 48 (.ext (.t 42) 1),
 mv 9 47,
 mv 10 48] [1,4,7,8,9,10])
 (.seq
 (.seq
 (.reg [mv 49 8,
 o1 50 (.un .not (.t 49)),
 mv 51 50,
 ⟨(some 52),.move (.t 10),some (51,false)⟩,
 ⟨(some 53),.un .not (.t 52),some (51,false)⟩,
 o1 54 (.pick (.t 51) (.c (.b true)) (.t 53))] [1,4,7,9,54])
 (.cond (.t 54)
 (.seq
 (.reg [o1 55 (.build [(.s []),(.s []),(.s []),(.s [])] []),
 ⟨none,.store 4 (.t 4) (.t 55),none⟩,
 o1 5 (.move (.c (.i .i64 50)))] [4,5])
 (.ret))
 (.skip)))
 (.seq
 (.reg [mv 57 7,
 mv 58 1,
 o1 59 (.call false (.f 137) [(.t 58)]),
 o1 60 (.call false (.f 45) [(.t 57),(.t 59)]),
 mv 56 60,
 o1 61 (.ext (.t 56) 0),
 o1 62 (.ext (.t 56) 1),
 o1 11 (.alloc 26 [(.s []),(.s [])]),
 ⟨none,.store 2 (.t 11) (.t 61),none⟩,
 mv 12 62] [1,4,9,11,12])
 (.seq
 (.reg [mv 64 9,
 mv 65 1,
 o1 66 (.call false (.f 137) [(.t 65)]),
 o1 67 (.call false (.f 45) [(.t 64),(.t 66)]),
 mv 63 67,
 o1 68 (.ext (.t 63) 0),
 o1 69 (.ext (.t 63) 1),
 o1 13 (.alloc 26 [(.s []),(.s [])]),
 ⟨none,.store 2 (.t 13) (.t 68),none⟩,
 mv 14 69] [4,11,12,13,14])
 (.seq
 (.reg [o1 70 (.load true 2 (.t 11)),
 mv 71 12,
 o1 72 (.load true 2 (.t 13)),
 mv 73 14,
 o1 74 (.call false (.f 133) [(.t 70),(.t 71),(.t 72),(.t 73)]),
 o1 75 (.ext (.t 74) 0),
 o1 76 (.ext (.t 74) 1),
 ⟨none,.store 4 (.t 4) (.t 75),none⟩,
 mv 5 76] [4,5])
 (.ret)))))))))
def c90:SF:=⟨77,[.cell 4 true 4,.t 5],b90,none⟩
def h91:Hints:=⟨[(0,[1,2,4]),(1,[1,2,4,6]),(2,[1,2,4,14]),(3,[4,5]),(4,[1,2,4,7,8]),(5,[4,7,8,9,10]),(6,[4,5])],[]⟩
def b91:C :=
 .seq
 (.reg [o1 2 (.box 29 (.t 0)),
 o1 4 (.alloc 29 [(.s []),(.s []),(.s []),(.s [])]),
 o1 5 (.move (.c (.i .i64 0)))] [1,2,4])
 (.seq
 (.reg [o1 11 (.load true 4 (.t 2)),
 o1 12 (.call false (.f 36) [(.t 11)]),
 mv 6 12] [1,2,4,6])
 (.seq
 (.seq
 (.reg [mv 13 6,
 o1 14 (.un .not (.t 13))] [1,2,4,14])
 (.cond (.t 14)
 (.seq
 (.reg [o1 15 (.build [(.s []),(.s []),(.s []),(.s [])] []),
 ⟨none,.store 4 (.t 4) (.t 15),none⟩,
 o1 5 (.move (.c (.i .i64 50)))] [4,5])
 (.ret))
 (.skip)))
 (.seq
 (.reg [o1 17 (.fieldAddr 0 (.t 2)),
 o1 18 (.load true 2 (.t 17)),
 mv 19 1,
 o1 20 (.call false (.f 138) [(.t 18),(.t 19)]),
 mv 16 20,
 o1 21 (.ext (.t 16) 0),
 o1 22 (.ext (.t 16) 1),
 o1 7 (.alloc 26 [(.s []),(.s [])]),
 ⟨none,.store 2 (.t 7) (.t 21),none⟩,
 mv 8 22] [1,2,4,7,8])
 (.seq
 (.reg [o1 24 (.fieldAddr 2 (.t 2)),
 o1 25 (.load true 2 (.t 24)),
 mv 26 1,
 o1 27 (.call false (.f 139) [(.t 25),(.t 26)]),
 mv 23 27,
 o1 28 (.ext (.t 23) 0),
 o1 29 (.ext (.t 23) 1),
 o1 9 (.alloc 26 [(.s []),(.s [])]),
 ⟨none,.store 2 (.t 9) (.t 28),none⟩,
 mv 10 29] [4,7,8,9,10])
 (.seq
 (.reg [o1 30 (.load true 2 (.t 7)),
 mv 31 8,
 o1 32 (.load true 2 (.t 9)),
 mv 33 10,
 o1 34 (.call false (.f 133) [(.t 30),(.t 31),(.t 32),(.t 33)]),
 o1 35 (.ext (.t 34) 0),
 o1 36 (.ext (.t 34) 1),
 ⟨none,.store 4 (.t 4) (.t 35),none⟩,
 mv 5 36] [4,5])
 (.ret))))))
def c91:SF:=⟨37,[.cell 4 true 4,.t 5],b91,none⟩
def h92:Hints:=⟨[(0,[0,1,4,5]),(1,[0,1,4,5]),(2,[0,4,5]),(3,[4,5])],[]⟩
def b92:C :=
 .seq
 (.reg [o1 4 (.alloc 26 [(.s []),(.s [])]),
 o1 5 (.alloc 31 [(.i .i64 0)])] [0,1,4,5])
 (.skip)
def r92:C :=
 .seq
 (.reg [mv 7 1,
 o1 8 (.call false (.f 110) [(.t 7),(.f 141)]),
 o1 9 (.un .not (.t 8)),
 o1 10 (.call false (.f 67) [(.t 9)])] [0,4,5])
 (.seq
 (.reg [mv 11 0,
 o1 12 (.call false (.t 11) []),
 ⟨none,.store 2 (.t 4) (.t 12),none⟩,
 ⟨none,.store 1 (.t 5) (.c (.i .i64 0)),none⟩] [4,5])
 (.ret))
def c92:SF:=⟨13,[.cell 4 true 2,.cell 5 false 1],b92,some ⟨[o1 6 (.mkF 140 [] [(.t 4),(.t 5)])],(.t 6),[],r92⟩⟩
def h93:Hints:=⟨[(0,[0,1]),(1,[1])],[]⟩
def b93:C :=
 .seq
 (.reg [o1 1 (.alloc 26 [(.s []),(.s [])])] [0,1])
 (.seq
 (.reg [o1 2 (.fieldAddr 2 (.t 0)),
 o1 3 (.load true 2 (.t 2)),
 o1 4 (.fieldAddr 0 (.t 0)),
 o1 5 (.load true 2 (.t 4)),
 o1 6 (.call false (.f 18) [(.t 3),(.t 5)]),
 o1 7 (.ext (.t 6) 0),
 o1 8 (.ext (.t 6) 1),
 o1 9 (.call false (.f 51) [(.t 7),(.t 8)]),
 ⟨none,.store 2 (.t 1) (.t 9),none⟩] [1])
 (.ret))
def c93:SF:=⟨10,[.cell 1 true 2],b93,none⟩
def h94:Hints:=⟨[(0,[2,3]),(1,[2,3,5]),(2,[2,3,5,6]),(3,[2,3,28]),(4,[4]),(5,[2,3,7]),(6,[2,3,7,8]),(7,[3,7,8,9]),(8,[3,7,8,9,10]),(9,[7,8,9,10,11]),(10,[7,9,10,11,12,13]),(11,[7,9,11,12,13,15,16]),(12,[7,9,11,13,16,18]),(13,[7,9,11,13,16,18,55]),(14,[4]),(15,[7,9,11,13,16,64]),(16,[4]),(17,[7,8,9,11,16]),(18,[7,8,9,10,11]),(19,[7,8,9,10,11])],[]⟩
def l94_0:C :=
 .block 1 (.seq
 (.reg [mv 38 8,
 mv 39 9,
 o1 40 (.call false (.f 98) [(.t 38),(.t 39)]),
 mv 37 40,
 o1 41 (.ext (.t 37) 0),
 o1 42 (.ext (.t 37) 1),
 o1 43 (.ext (.t 37) 2),
 mv 12 41,
 mv 13 42,
 mv 14 43] [7,9,10,11,12,13])
 (.seq
 (.reg [mv 45 10,
 mv 46 11,
 o1 47 (.call false (.f 98) [(.t 45),(.t 46)]),
 mv 44 47,
 o1 48 (.ext (.t 44) 0),
 o1 49 (.ext (.t 44) 1),
 o1 50 (.ext (.t 44) 2),
 mv 15 48,
 mv 16 49,
 mv 17 50] [7,9,11,12,13,15,16])
 (.seq
 (.reg [mv 51 12,
 mv 52 15,
 o1 53 (.call false (.f 80) [(.t 51),(.t 52)]),
 mv 18 53] [7,9,11,13,16,18])
 (.seq
 (.seq
 (.reg [mv 54 18,
 o1 55 (.bin .neq (.t 54) (.c (.i .i64 0)))] [7,9,11,13,16,18,55])
 (.cond (.t 55)
 (.seq
 (.reg [mv 56 7,
 mv 57 18,
 o1 58 (.bin .mul (.t 56) (.t 57)),
 mv 4 58] [4])
 (.ret))
 (.skip)))
 (.seq
 (.seq
 (.reg [mv 59 13,
 o1 60 (.bin .eql (.t 59) (.c (.s [48]))),
 mv 61 60,
 ⟨(some 62),.move (.t 16),some (61,false)⟩,
 ⟨(some 63),.bin .eql (.t 62) (.c (.s [48])),some (61,false)⟩,
 o1 64 (.pick (.t 61) (.c (.b true)) (.t 63))] [7,9,11,13,16,64])
 (.cond (.t 64)
 (.seq
 (.reg [mv 65 7,
 mv 66 13,
 o1 67 (.call false (.f 142) [(.t 66)]),
 mv 68 16,
 o1 69 (.call false (.f 142) [(.t 68)]),
 o1 70 (.call false (.f 80) [(.t 67),(.t 69)]),
 o1 71 (.bin .mul (.t 65) (.t 70)),
 mv 4 71] [4])
 (.ret))
 (.skip)))
 (.seq
 (.reg [mv 72 9,
 mv 73 13,
 mv 8 72,
 mv 9 73] [7,8,9,11,16])
 (.seq
 (.reg [mv 74 11,
 mv 75 16,
 mv 10 74,
 mv 11 75] [7,8,9,10,11])
 (.reg [mv 76 7,
 o1 77 (.un .neg (.t 76)),
 mv 7 77] [7,8,9,10,11]))))))))
def b94:C :=
 .seq
 (.reg [o1 2 (.box 26 (.t 0)),
 o1 3 (.box 26 (.t 1)),
 o1 4 (.move (.c (.i .i64 0)))] [2,3])
 (.seq
 (.reg [o1 19 (.load true 2 (.t 2)),
 o1 20 (.call false (.f 30) [(.t 19)]),
 mv 5 20] [2,3,5])
 (.seq
 (.reg [o1 21 (.load true 2 (.t 3)),
 o1 22 (.call false (.f 30) [(.t 21)]),
 mv 6 22] [2,3,5,6])
 (.seq
 (.seq
 (.reg [mv 23 5,
 o1 24 (.un .not (.t 23)),
 mv 25 24,
 ⟨(some 26),.move (.t 6),some (25,false)⟩,
 ⟨(some 27),.un .not (.t 26),some (25,false)⟩,
 o1 28 (.pick (.t 25) (.c (.b true)) (.t 27))] [2,3,28])
 (.cond (.t 28)
 (.seq
 (.reg [o1 4 (.move (.c (.i .i64 0)))] [4])
 (.ret))
 (.skip)))
 (.seq
 (.reg [o1 7 (.move (.c (.i .i64 1)))] [2,3,7])
 (.seq
 (.reg [o1 29 (.fieldAddr 0 (.t 2)),
 o1 30 (.load false 1 (.t 29)),
 mv 8 30] [2,3,7,8])
 (.seq
 (.reg [o1 31 (.fieldAddr 1 (.t 2)),
 o1 32 (.load false 1 (.t 31)),
 mv 9 32] [3,7,8,9])
 (.seq
 (.reg [o1 33 (.fieldAddr 0 (.t 3)),
 o1 34 (.load false 1 (.t 33)),
 mv 10 34] [3,7,8,9,10])
 (.seq
 (.reg [o1 35 (.fieldAddr 1 (.t 3)),
 o1 36 (.load false 1 (.t 35)),
 mv 11 36] [7,8,9,10,11])
 (.block 0 (.loop l94_0))))))))))
def c94:SF:=⟨78,[.t 4],b94,none⟩
def h95:Hints:=⟨[(0,[0,1,2]),(1,[2])],[]⟩
def b95:C :=
 .seq
 (.reg [o1 2 (.alloc 29 [(.s []),(.s []),(.s []),(.s [])])] [0,1,2])
 (.seq
 (.reg [o1 3 (.load true 4 (.t 0)),
 o1 4 (.load true 4 (.t 1)),
 o1 5 (.call false (.f 96) [(.f 21),(.t 3),(.t 4)]),
 ⟨none,.store 4 (.t 2) (.t 5),none⟩] [2])
 (.ret))
def c95:SF:=⟨6,[.cell 2 true 4],b95,none⟩
def h96:Hints:=⟨[(0,[0,4,5,6]),(1,[6])],[]⟩
def b96:C :=
 .seq
 (.reg [o1 4 (.box 29 (.t 1)),
 o1 5 (.box 29 (.t 2)),
 o1 6 (.alloc 29 [(.s []),(.s []),(.s []),(.s [])])] [0,4,5,6])
 (.seq
 (.draw [⟨0,mv 7 0,0,[]⟩,
 ⟨1,o1 8 (.fieldAddr 0 (.t 4)),0,[]⟩,
 ⟨2,o1 9 (.load true 2 (.t 8)),0,[]⟩,
 ⟨3,o1 10 (.fieldAddr 0 (.t 5)),0,[]⟩,
 ⟨4,o1 11 (.load true 2 (.t 10)),0,[]⟩,
 ⟨6,mv 13 0,0,[]⟩,
 ⟨7,o1 14 (.fieldAddr 0 (.t 4)),0,[]⟩,
 ⟨8,o1 15 (.load true 2 (.t 14)),0,[]⟩,
 ⟨9,o1 16 (.fieldAddr 2 (.t 5)),0,[]⟩,
 ⟨10,o1 17 (.load true 2 (.t 16)),0,[]⟩,
 ⟨12,mv 19 0,0,[]⟩,
 ⟨13,o1 20 (.fieldAddr 2 (.t 4)),0,[]⟩,
 ⟨14,o1 21 (.load true 2 (.t 20)),0,[]⟩,
 ⟨15,o1 22 (.fieldAddr 0 (.t 5)),0,[]⟩,
 ⟨16,o1 23 (.load true 2 (.t 22)),0,[]⟩,
 ⟨18,mv 25 0,0,[]⟩,
 ⟨19,o1 26 (.fieldAddr 2 (.t 4)),0,[]⟩,
 ⟨20,o1 27 (.load true 2 (.t 26)),0,[]⟩,
 ⟨21,o1 28 (.fieldAddr 2 (.t 5)),0,[]⟩,
 ⟨22,o1 29 (.load true 2 (.t 28)),0,[]⟩,
 ⟨5,o1 12 (.call false (.f 130) [(.t 7),(.t 9),(.t 11)]),1,[22,20,16,14,10,8]⟩,
 ⟨11,o1 18 (.call false (.f 130) [(.t 13),(.t 15),(.t 17)]),1,[22,20,16,14]⟩,
 ⟨17,o1 24 (.call false (.f 130) [(.t 19),(.t 21),(.t 23)]),1,[22,20]⟩,
 ⟨23,o1 30 (.call false (.f 130) [(.t 25),(.t 27),(.t 29)]),1,[]⟩,
 ⟨24,o1 31 (.bslice false 26 2 [(.s []),(.s [])] 4 [(0,(.t 12)),(1,(.t 18)),(2,(.t 24)),(3,(.t 30))]),0,[]⟩,
 ⟨25,o1 32 (.call false (.f 74) [(.t 31)]),1,[]⟩,
 ⟨26,⟨none,.store 4 (.t 6) (.t 32),none⟩,1,[]⟩] [6])
 (.ret))
def c96:SF:=⟨33,[.cell 6 true 4],b96,none⟩
def h97:Hints:=⟨[(0,[0,1,2]),(1,[0,1,2]),(2,[2])],[]⟩
def b97:C :=
 .seq
 (.reg [o1 2 (.alloc 29 [(.s []),(.s []),(.s []),(.s [])])] [0,1,2])
 (.seq
 (.draw [⟨0,o1 3 (.load true 4 (.t 0)),0,[]⟩,
 ⟨1,o1 4 (.call false (.f 68) []),1,[0]⟩,
 ⟨2,o1 5 (.call false (.f 23) [(.t 3),(.t 4)]),1,[]⟩,
 ⟨3,o1 6 (.un .not (.t 5)),0,[]⟩,
 ⟨4,o1 7 (.call false (.f 67) [(.t 6)]),1,[]⟩] [0,1,2])
 (.seq
 (.reg [o1 8 (.load true 4 (.t 1)),
 o1 9 (.load true 4 (.t 0)),
 o1 10 (.call false (.f 96) [(.f 17),(.t 8),(.t 9)]),
 ⟨none,.store 4 (.t 2) (.t 10),none⟩] [2])
 (.ret)))
def c97:SF:=⟨11,[.cell 2 true 4],b97,none⟩
def h98:Hints:=⟨[(0,[0,1]),(1,[0,1,28]),(2,[4,5,6]),(3,[1,7,8]),(4,[7,8,9,10]),(5,[7,9,10,11,12]),(6,[7,9,10,11,12,50]),(7,[7,9,10,11,12]),(8,[7,9,11,12]),(9,[12,13,14]),(10,[13,14,15]),(11,[13,14,15,71]),(12,[4,5,6]),(13,[4,5,6])],[]⟩
def b98:C :=
 .seq
 (.reg [o1 4 (.move (.c (.s []))),
 o1 5 (.move (.c (.s []))),
 o1 6 (.move (.c (.i .i64 0)))] [0,1])
 (.seq
 (.seq
 (.reg [mv 17 0,
 o1 18 (.call false (.f 79) [(.t 17)]),
 o1 19 (.un .not (.t 18)),
 mv 20 19,
 ⟨(some 21),.move (.t 1),some (20,false)⟩,
 ⟨(some 22),.call false (.f 79) [(.t 21)],some (20,false)⟩,
 ⟨(some 23),.un .not (.t 22),some (20,false)⟩,
 o1 24 (.pick (.t 20) (.c (.b true)) (.t 23)),
 mv 25 24,
 ⟨(some 26),.move (.t 1),some (25,false)⟩,
 ⟨(some 27),.bin .eql (.t 26) (.c (.s [48])),some (25,false)⟩,
 o1 28 (.pick (.t 25) (.c (.b true)) (.t 27))] [0,1,28])
 (.cond (.t 28)
 (.seq
 (.reg [o1 4 (.move (.c (.s []))),
 o1 5 (.move (.c (.s []))),
 o1 6 (.move (.c (.i .i64 30)))] [4,5,6])
 (.ret))
 (.skip)))
 (.seq
 (.reg [mv 30 0,
 o1 31 (.call false (.f 124) [(.t 30)]),
 mv 29 31,
 o1 32 (.ext (.t 29) 0),
 o1 33 (.ext (.t 29) 1),
 mv 7 32,
 mv 8 33] [1,7,8])
 (.seq
 (.reg [mv 35 1,
 o1 36 (.call false (.f 124) [(.t 35)]),
 mv 34 36,
 o1 37 (.ext (.t 34) 0),
 o1 38 (.ext (.t 34) 1),
 mv 9 37,
 mv 10 38] [7,8,9,10])
 (.seq
 (.reg [mv 40 8,
 mv 41 10,
 o1 42 (.call false (.f 127) [(.t 40),(.t 41)]),
 mv 39 42,
 o1 43 (.ext (.t 39) 0),
 o1 44 (.ext (.t 39) 1),
 mv 11 43,
 mv 12 44] [7,9,10,11,12])
 (.seq
 (.seq
 (.reg [mv 45 7,
 mv 46 45,
 ⟨(some 47),.move (.t 12),some (46,true)⟩,
 ⟨(some 48),.len false (.t 47),some (46,true)⟩,
 ⟨(some 49),.bin .gtr (.t 48) (.c (.i .i64 0)),some (46,true)⟩,
 o1 50 (.pick (.t 46) (.t 49) (.c (.b false)))] [7,9,10,11,12,50])
 (.cond (.t 50)
 (.seq
 (.reg [mv 51 11,
 o1 52 (.bslice false 3 1 [(.i .i64 0)] 1 [(0,(.c (.i .i64 1)))]),
 o1 53 (.call false (.f 143) [(.t 51),(.t 52)]),
 mv 11 53] [7,9,10,11,12])
 (.reg [mv 54 10,
 mv 55 12,
 o1 56 (.call false (.f 144) [(.t 54),(.t 55)]),
 mv 12 56] [7,9,11,12]))
 (.skip)))
 (.seq
 (.reg [mv 58 7,
 mv 59 9,
 o1 60 (.eqB true (.t 58) (.t 59)),
 mv 61 11,
 o1 62 (.call false (.f 128) [(.t 60),(.t 61)]),
 mv 57 62,
 o1 63 (.ext (.t 57) 0),
 o1 64 (.ext (.t 57) 1),
 mv 13 63,
 mv 14 64] [12,13,14])
 (.seq
 (.reg [mv 66 12,
 o1 67 (.call false (.f 145) [(.c (.b false)),(.t 66)]),
 mv 65 67,
 o1 68 (.ext (.t 65) 0),
 o1 69 (.ext (.t 65) 1),
 mv 15 68,
 mv 16 69] [13,14,15])
 (.seq
 (.seq
 (.reg [mv 70 14,
 o1 71 (.bin .neq (.t 70) (.c (.i .i64 0)))] [13,14,15,71])
 (.cond (.t 71)
 (.seq
 (.reg [mv 72 14,
 o1 4 (.move (.c (.s []))),
 o1 5 (.move (.c (.s []))),
 mv 6 72] [4,5,6])
 (.ret))
 (.skip)))
 (.seq
 (.reg [mv 73 13,
 mv 74 15,
 mv 4 73,
 mv 5 74,
 o1 6 (.move (.c (.i .i64 0)))] [4,5,6])
 (.ret))))))))))
def c98:SF:=⟨75,[.t 4,.t 5,.t 6],b98,none⟩
def h99:Hints:=⟨[(0,[0]),(1,[2])],[]⟩
def b99:C :=
 .seq
 (.reg [o1 2 (.move (.c (.b false)))] [0])
 (.seq
 (.reg [mv 3 0,
 o1 4 (.call false (.f 146) [(.t 3)]),
 mv 2 4] [2])
 (.ret))
def c99:SF:=⟨5,[.t 2],b99,none⟩
def h100:Hints:=⟨[(0,[0,1]),(1,[6,7,8]),(2,[6,7,21]),(3,[4,5]),(4,[9,10]),(5,[9,10,28]),(6,[10,12]),(7,[9,10]),(8,[4,5])],[]⟩
def l100_0:C :=
 .seq
 (.seq
 (.reg [mv 26 10,
 o1 27 (.len false (.t 26)),
 o1 28 (.bin .gtr (.t 27) (.c (.i .i64 0)))] [9,10,28])
 (.cond (.t 28)
 (.skip)
 (.exit 0)))
 (.block 1 (.seq
 (.reg [mv 30 9,
 mv 31 10,
 o1 32 (.call false (.f 102) [(.t 30),(.t 31)]),
 mv 29 32,
 o1 33 (.ext (.t 29) 0),
 o1 34 (.ext (.t 29) 1),
 mv 11 33,
 mv 12 34] [10,12])
 (.reg [mv 35 10,
 mv 36 12,
 mv 9 35,
 mv 10 36] [9,10])))
def b100:C :=
 .seq
 (.reg [o1 4 (.move (.c (.s []))),
 o1 5 (.move (.c (.i .i64 0)))] [0,1])
 (.seq
 (.reg [mv 14 0,
 mv 15 1,
 o1 16 (.call false (.f 101) [(.t 14),(.t 15)]),
 mv 13 16,
 o1 17 (.ext (.t 13) 0),
 o1 18 (.ext (.t 13) 1),
 o1 19 (.ext (.t 13) 2),
 o1 6 (.alloc 103 [(.b false),(.ls [])]),
 o1 7 (.alloc 103 [(.b false),(.ls [])]),
 ⟨none,.store 2 (.t 6) (.t 17),none⟩,
 ⟨none,.store 2 (.t 7) (.t 18),none⟩,
 mv 8 19] [6,7,8])
 (.seq
 (.seq
 (.reg [mv 20 8,
 o1 21 (.un .not (.t 20))] [6,7,21])
 (.cond (.t 21)
 (.seq
 (.reg [o1 4 (.move (.c (.s []))),
 o1 5 (.move (.c (.i .i64 30)))] [4,5])
 (.ret))
 (.skip)))
 (.seq
 (.draw [⟨0,o1 22 (.fieldAddr 1 (.t 6)),0,[]⟩,
 ⟨1,o1 23 (.load false 1 (.t 22)),0,[]⟩,
 ⟨2,o1 24 (.fieldAddr 1 (.t 7)),0,[]⟩,
 ⟨3,o1 25 (.load false 1 (.t 24)),0,[]⟩,
 ⟨4,mv 9 23,0,[]⟩,
 ⟨5,mv 10 25,0,[]⟩] [9,10])
 (.seq
 (.block 0 (.loop l100_0))
 (.seq
 (.reg [mv 37 9,
 o1 38 (.build [(.b false),(.ls [])] [(1,1,(.t 37))]),
 o1 39 (.call false (.f 106) [(.t 38)]),
 o1 40 (.ext (.t 39) 0),
 o1 41 (.ext (.t 39) 1),
 mv 4 40,
 mv 5 41] [4,5])
 (.ret))))))
def c100:SF:=⟨42,[.t 4,.t 5],b100,none⟩
def h101:Hints:=⟨[(0,[0,1,4,5]),(1,[0,1,4,5,14]),(2,[4,5,6]),(3,[4,5,6])],[]⟩
def b101:C :=
 .seq
 (.reg [o1 4 (.alloc 103 [(.b false),(.ls [])]),
 o1 5 (.alloc 103 [(.b false),(.ls [])]),
 o1 6 (.move (.c (.b false)))] [0,1,4,5])
 (.seq
 (.seq
 (.reg [mv 7 0,
 o1 8 (.call false (.f 146) [(.t 7)]),
 o1 9 (.un .not (.t 8)),
 mv 10 9,
 ⟨(some 11),.move (.t 1),some (10,false)⟩,
 ⟨(some 12),.call false (.f 146) [(.t 11)],some (10,false)⟩,
 ⟨(some 13),.un .not (.t 12),some (10,false)⟩,
 o1 14 (.pick (.t 10) (.c (.b true)) (.t 13))] [0,1,4,5,14])
 (.cond (.t 14)
 (.seq
 (.reg [o1 15 (.build [(.b false),(.ls [])] []),
 o1 16 (.build [(.b false),(.ls [])] []),
 ⟨none,.store 2 (.t 4) (.t 15),none⟩,
 ⟨none,.store 2 (.t 5) (.t 16),none⟩,
 o1 6 (.move (.c (.b false)))] [4,5,6])
 (.ret))
 (.skip)))
 (.seq
 (.reg [mv 17 0,
 o1 18 (.call false (.f 147) [(.t 17)]),
 mv 19 1,
 o1 20 (.call false (.f 147) [(.t 19)]),
 ⟨none,.store 2 (.t 4) (.t 18),none⟩,
 ⟨none,.store 2 (.t 5) (.t 20),none⟩,
 o1 6 (.move (.c (.b true)))] [4,5,6])
 (.ret)))
def c101:SF:=⟨21,[.cell 4 true 2,.cell 5 true 2,.t 6],b101,none⟩
def h102:Hints:=⟨[(0,[0,3,4,5]),(1,[0,3,4,5]),(2,[3,4,5,14]),(3,[3,4,5,6,16]),(4,[3,4,5,6,7]),(5,[3,4,5,6]),(6,[4,5,6,8]),(7,[4,5,6,8,9]),(8,[4,5,6,8]),(9,[]),(10,[4,5])],[(5,3),(10,0),(5,1)]⟩
def l102_0:C :=
 .seq
 (.reg [mv 6 15] [3,4,5,6,16])
 (.reg [mv 7 16] [3,4,5,6,7])
def l102_1:C :=
 .block 1 (.seq
 (.reg [mv 17 7,
 o1 18 (.bslice true 3 1 [(.i .i64 0)] 1 [(0,(.t 17))]),
 o1 19 (.load false 1 (.t 5)),
 o1 20 (.appF 3 1 8 (.t 18) (.t 19)),
 o1 21 (.call false (.f 149) [(.t 20)]),
 ⟨none,.store 1 (.t 5) (.t 21),none⟩] [3,4,5,6])
 (.seq
 (.reg [o1 22 (.load false 1 (.t 3)),
 o1 23 (.mkF 150 [(.t 22)] []),
 o1 8 (.alloc 140 [.nilf]),
 ⟨none,.store 1 (.t 8) (.t 23),none⟩] [4,5,6,8])
 (.seq
 (.reg [o1 24 (.mkF 151 [] [(.t 8),(.t 5)]),
 mv 9 24] [4,5,6,8,9])
 (.seq
 (.draw [⟨0,o1 25 (.load false 1 (.t 4)),0,[]⟩,
 ⟨1,mv 26 6,0,[]⟩,
 ⟨2,mv 27 9,0,[]⟩,
 ⟨3,o1 28 (.call false (.f 152) [(.c (.i .i64 9999)),(.t 27)]),1,[0]⟩,
 ⟨4,o1 29 (.ixS 1 (.t 25) (.t 26)),0,[]⟩,
 ⟨5,⟨none,.store 1 (.t 29) (.t 28),none⟩,1,[]⟩] [4,5,6,8])
 (.draw [⟨0,o1 30 (.load false 1 (.t 5)),0,[]⟩,
 ⟨1,o1 31 (.load false 1 (.t 8)),0,[]⟩,
 ⟨2,o1 32 (.load false 1 (.t 4)),0,[]⟩,
 ⟨3,mv 33 6,0,[]⟩,
 ⟨4,o1 34 (.ixS 1 (.t 32) (.t 33)),0,[]⟩,
 ⟨5,o1 35 (.load false 1 (.t 34)),0,[]⟩,
 ⟨6,o1 36 (.call false (.t 31) [(.t 35)]),1,[0]⟩,
 ⟨7,o1 37 (.call false (.f 105) [(.t 30),(.t 36)]),1,[]⟩,
 ⟨8,⟨none,.store 1 (.t 5) (.t 37),none⟩,1,[]⟩] [])))))
def b102:C :=
 .seq
 (.reg [o1 3 (.box 101 (.t 1)),
 o1 4 (.alloc 101 [(.ls [])]),
 o1 5 (.alloc 101 [(.ls [])])] [0,3,4,5])
 (.seq
 (.reg [mv 10 0,
 o1 11 (.len false (.t 10)),
 o1 12 (.mkSl 3 1 8 [(.i .i64 0)] (.t 11) (.t 11)),
 ⟨none,.store 1 (.t 4) (.t 12),none⟩] [0,3,4,5])
 (.seq
 (.seq
 (.reg [mv 13 0,
 o1 14 (.call false (.f 148) [(.t 13)])] [3,4,5,14])
 (.block 0 (.range (.t 14) [15,16] l102_0 l102_1)))
 (.seq
 (.draw [⟨2,o1 40 (.load false 1 (.t 5)),0,[]⟩,
 ⟨0,o1 38 (.frzL false 1 (.t 4)),1,[2]⟩,
 ⟨1,o1 39 (.call false (.f 149) [(.t 38)]),1,[2]⟩,
 ⟨3,⟨none,.store 1 (.t 4) (.t 39),none⟩,1,[2]⟩,
 ⟨4,⟨none,.store 1 (.t 5) (.t 40),none⟩,1,[]⟩] [4,5])
 (.ret))))
def c102:SF:=⟨41,[.cell 4 false 1,.cell 5 false 1],b102,none⟩
def h103:Hints:=⟨[(0,[2,3]),(1,[4])],[]⟩
def b103:C :=
 .seq
 (.reg [o1 2 (.box 101 (.t 0)),
 o1 3 (.box 101 (.t 1)),
 o1 4 (.move (.c (.ls [])))] [2,3])
 (.seq
 (.reg [o1 5 (.load false 1 (.t 2)),
 o1 6 (.len false (.t 5)),
 o1 7 (.load false 1 (.t 3)),
 o1 8 (.len false (.t 7)),
 o1 9 (.mm true [(.t 6),(.t 8)]),
 o1 10 (.mkF 154 [] [(.t 2),(.t 3)]),
 o1 11 (.call false (.f 153) [(.t 9),(.c (.i .i64 0)),(.t 10)]),
 o1 12 (.call false (.f 149) [(.t 11)]),
 mv 4 12] [4])
 (.ret))
def c103:SF:=⟨13,[.t 4],b103,none⟩
def h104:Hints:=⟨[(0,[]),(1,[0])],[]⟩
def b104:C :=
 .seq
 (.reg [o1 0 (.move (.c (.ls [])))] [])
 (.seq
 (.reg [o1 1 (.bslice false 3 1 [(.i .i64 0)] 1 [(0,(.c (.i .i64 1)))]),
 mv 0 1] [0])
 (.ret))
def c104:SF:=⟨2,[.t 0],b104,none⟩
def h105:Hints:=⟨[(0,[2,3]),(1,[4])],[]⟩
def b105:C :=
 .seq
 (.reg [o1 2 (.box 101 (.t 0)),
 o1 3 (.box 101 (.t 1)),
 o1 4 (.move (.c (.ls [])))] [2,3])
 (.seq
 (.reg [o1 5 (.load false 1 (.t 2)),
 o1 6 (.len false (.t 5)),
 o1 7 (.mkF 156 [] [(.t 2),(.t 3)]),
 o1 8 (.call false (.f 153) [(.t 6),(.c (.i .i64 0)),(.t 7)]),
 o1 9 (.call false (.f 149) [(.t 8)]),
 mv 4 9] [4])
 (.ret))
def c105:SF:=⟨10,[.t 4],b105,none⟩
def h106:Hints:=⟨[(0,[1]),(1,[1,12]),(2,[2,3]),(3,[1,4]),(4,[1,4,15]),(5,[1,4,5,17]),(6,[1,4,5,6]),(7,[1,4,5,7]),(8,[4,7,25]),(9,[4,7]),(10,[]),(11,[1,8]),(12,[1,8,37]),(13,[2,3]),(14,[8,39]),(15,[2,3]),(16,[2,3])],[(3,0)]⟩
def l106_0:C :=
 .seq
 (.reg [mv 5 16] [1,4,5,17])
 (.reg [mv 6 17] [1,4,5,6])
def l106_1:C :=
 .block 1 (.seq
 (.reg [mv 18 6,
 o1 19 (.call false (.f 157) [(.t 18)]),
 mv 7 19] [1,4,5,7])
 (.seq
 (.seq
 (.reg [mv 20 5,
 o1 21 (.fieldAddr 1 (.t 1)),
 o1 22 (.load false 1 (.t 21)),
 o1 23 (.len false (.t 22)),
 o1 24 (.bin .sub (.t 23) (.c (.i .i64 1))),
 o1 25 (.bin .lss (.t 20) (.t 24))] [4,7,25])
 (.cond (.t 25)
 (.reg [mv 26 7,
 o1 27 (.len true (.t 26)),
 o1 28 (.bin .sub (.c (.i .i64 4)) (.t 27)),
 o1 29 (.call false (.f 120) [(.c (.s [48])),(.t 28)]),
 mv 30 7,
 o1 31 (.bin .add (.t 29) (.t 30)),
 mv 7 31] [4,7])
 (.skip)))
 (.reg [mv 32 7,
 o1 33 (.call false (.f 158) [(.t 4),(.t 32)])] [])))
def b106:C :=
 .seq
 (.reg [o1 1 (.box 103 (.t 0)),
 o1 2 (.move (.c (.s []))),
 o1 3 (.move (.c (.i .i64 0)))] [1])
 (.seq
 (.seq
 (.reg [o1 9 (.fieldAddr 1 (.t 1)),
 o1 10 (.load false 1 (.t 9)),
 o1 11 (.len false (.t 10)),
 o1 12 (.bin .eql (.t 11) (.c (.i .i64 0)))] [1,12])
 (.cond (.t 12)
 (.seq
 (.reg [o1 2 (.move (.c (.s [48]))),
 o1 3 (.move (.c (.i .i64 0)))] [2,3])
 (.ret))
 (.skip)))
 (.seq
 (.reg [o1 4 (.allocG 147 5 1 1 [.nilp,(.ls [])])] [1,4])
 (.seq
 (.seq
 (.reg [o1 13 (.fieldAddr 1 (.t 1)),
 o1 14 (.load false 1 (.t 13)),
 o1 15 (.call false (.f 148) [(.t 14)])] [1,4,15])
 (.block 0 (.range (.t 15) [16,17] l106_0 l106_1)))
 (.seq
 (.reg [o1 34 (.call false (.f 159) [(.t 4)]),
 mv 8 34] [1,8])
 (.seq
 (.seq
 (.reg [mv 35 8,
 o1 36 (.len true (.t 35)),
 o1 37 (.bin .gtr (.t 36) (.c (.i .i64 200)))] [1,8,37])
 (.cond (.t 37)
 (.seq
 (.reg [o1 2 (.move (.c (.s []))),
 o1 3 (.move (.c (.i .i64 30)))] [2,3])
 (.ret))
 (.skip)))
 (.seq
 (.seq
 (.reg [o1 38 (.fieldAddr 0 (.t 1)),
 o1 39 (.load false 1 (.t 38))] [8,39])
 (.cond (.t 39)
 (.seq
 (.reg [mv 40 8,
 o1 41 (.bin .add (.c (.s [45])) (.t 40)),
 mv 2 41,
 o1 3 (.move (.c (.i .i64 0)))] [2,3])
 (.ret))
 (.skip)))
 (.seq
 (.reg [mv 42 8,
 mv 2 42,
 o1 3 (.move (.c (.i .i64 0)))] [2,3])
 (.ret))))))))
def c106:SF:=⟨43,[.t 2,.t 3],b106,none⟩
def h107:Hints:=⟨[(0,[0,3,4]),(1,[0,3,4,11]),(2,[4]),(3,[3,4,18]),(4,[3,4,5,20]),(5,[3,4,5,6]),(6,[3,4,5,6,26]),(7,[4]),(8,[4])],[]⟩
def l107_0:C :=
 .seq
 (.reg [mv 5 19] [3,4,5,20])
 (.reg [mv 6 20] [3,4,5,6])
def l107_1:C :=
 .block 1 (.seq
 (.reg [mv 21 6,
 o1 22 (.load false 1 (.t 3)),
 mv 23 5,
 o1 24 (.ixS 1 (.t 22) (.t 23)),
 o1 25 (.load false 1 (.t 24)),
 o1 26 (.bin .neq (.t 21) (.t 25))] [3,4,5,6,26])
 (.cond (.t 26)
 (.seq
 (.reg [mv 27 6,
 o1 28 (.load false 1 (.t 3)),
 mv 29 5,
 o1 30 (.ixS 1 (.t 28) (.t 29)),
 o1 31 (.load false 1 (.t 30)),
 o1 32 (.call false (.f 160) [(.t 27),(.t 31)]),
 ⟨none,.store 1 (.t 4) (.t 32),none⟩] [4])
 (.ret))
 (.skip)))
def b107:C :=
 .seq
 (.reg [o1 3 (.box 101 (.t 1)),
 o1 4 (.alloc 3 [(.i .i64 0)])] [0,3,4])
 (.seq
 (.seq
 (.reg [mv 7 0,
 o1 8 (.len false (.t 7)),
 o1 9 (.load false 1 (.t 3)),
 o1 10 (.len false (.t 9)),
 o1 11 (.bin .neq (.t 8) (.t 10))] [0,3,4,11])
 (.cond (.t 11)
 (.seq
 (.reg [mv 12 0,
 o1 13 (.len false (.t 12)),
 o1 14 (.load false 1 (.t 3)),
 o1 15 (.len false (.t 14)),
 o1 16 (.call false (.f 160) [(.t 13),(.t 15)]),
 ⟨none,.store 1 (.t 4) (.t 16),none⟩] [4])
 (.ret))
 (.skip)))
 (.seq
 (.seq
 (.reg [mv 17 0,
 o1 18 (.call false (.f 148) [(.t 17)])] [3,4,18])
 (.block 0 (.range (.t 18) [19,20] l107_0 l107_1)))
 (.seq
 (.reg [⟨none,.store 1 (.t 4) (.c (.i .i64 0)),none⟩] [4])
 (.ret))))
def c107:SF:=⟨33,[.cell 4 false 1],b107,none⟩
def h108:Hints:=⟨[(0,[0,1,2,3]),(1,[0,1,15]),(2,[0,1,4]),(3,[])],[]⟩
def d108:DF:=⟨17,6,[o1 7 (.asI [8,10,11,14,15,16,19,168,199,202,227] (.t 6)),
 mv 5 7,
 o1 8 (.ext (.t 5) 0),
 o1 9 (.ext (.t 5) 1),
 mv 2 8,
 mv 3 9],[0,1,2,3],
 .seq
 (.reg [mv 10 3,
 mv 11 10,
 ⟨(some 12),.move (.t 2),some (11,true)⟩,
 ⟨(some 13),.load false 1 (.g 0),some (11,true)⟩,
 ⟨(some 14),.call false (.f 109) [(.t 12),(.t 13)],some (11,true)⟩,
 o1 15 (.pick (.t 11) (.t 14) (.c (.b false)))] [0,1,15])
 (.cond (.t 15)
 (.seq
 (.reg [o1 4 (.alloc 29 [(.s []),(.s []),(.s []),(.s [])])] [0,1,4])
 (.reg [o1 16 (.load true 4 (.t 4)),
 ⟨none,.store 4 (.t 0) (.t 16),none⟩,
 ⟨none,.store 1 (.t 1) (.c (.i .i64 50)),none⟩] []))
 (.skip))⟩
def h110:Hints:=⟨[(0,[0,1]),(1,[4])],[]⟩
def b110:C :=
 .seq
 (.reg [o1 4 (.move (.c (.b false)))] [0,1])
 (.seq
 (.reg [mv 5 0,
 mv 6 1,
 o1 7 (.call false (.f 163) [(.t 5),(.t 6)]),
 o1 8 (.bin .geq (.t 7) (.c (.i .i64 0))),
 mv 4 8] [4])
 (.ret))
def c110:SF:=⟨9,[.t 4],b110,none⟩
def h111:Hints:=⟨[(0,[1]),(1,[2])],[]⟩
def b111:C :=
 .seq
 (.reg [o1 1 (.box 29 (.t 0)),
 o1 2 (.move (.c (.b false)))] [1])
 (.seq
 (.reg [o1 3 (.load true 4 (.t 1)),
 o1 4 (.call false (.f 35) [(.t 3)]),
 o1 5 (.un .not (.t 4)),
 mv 2 5] [2])
 (.ret))
def c111:SF:=⟨6,[.t 2],b111,none⟩
def h112:Hints:=⟨[(0,[1,2,3,6]),(1,[1,2,3,6,8]),(2,[1,2,3,6,8]),(3,[1,2,3,6,8,29]),(4,[6,7]),(5,[2,3,6,8,9]),(6,[2,3,6,8,9,10]),(7,[2,3,6,8,9,10,42]),(8,[6,7]),(9,[2,6,8,9,11,12,13]),(10,[2,6,8,9,11,12]),(11,[6,8,9,11,61]),(12,[6,8,9,11]),(13,[6,7])],[]⟩
def b112:C :=
 .seq
 (.reg [o1 3 (.box 26 (.t 0)),
 o1 6 (.alloc 26 [(.s []),(.s [])]),
 o1 7 (.move (.c (.i .i64 0)))] [1,2,3,6])
 (.seq
 (.reg [mv 14 1,
 o1 15 (.bin .lss (.t 14) (.c (.i .i64 0))),
 mv 16 15,
 ⟨(some 17),.move (.t 1),some (16,false)⟩,
 ⟨(some 18),.bin .gtr (.t 17) (.c (.i .i64 30)),some (16,false)⟩,
 o1 19 (.pick (.t 16) (.c (.b true)) (.t 18)),
 o1 20 (.build [(.b false)] [(0,1,(.t 19))]),
 o1 21 (.box 78 (.t 20)),
 mv 8 21] [1,2,3,6,8])
 (.seq
 (.reg [mv 22 8,
 o1 23 (.load true 2 (.t 3)),
 o1 24 (.bslice false 26 2 [(.s []),(.s [])] 1 [(0,(.t 23))]),
 o1 25 (.call false (.f 55) [(.t 22),(.t 24)])] [1,2,3,6,8])
 (.seq
 (.seq
 (.reg [mv 26 8,
 o1 27 (.nilCheck (.t 26)),
 o1 28 (.fieldAddr 0 (.t 27)),
 o1 29 (.load false 1 (.t 28))] [1,2,3,6,8,29])
 (.cond (.t 29)
 (.seq
 (.reg [o1 30 (.build [(.s []),(.s [])] []),
 ⟨none,.store 2 (.t 6) (.t 30),none⟩,
 o1 7 (.move (.c (.i .i64 40)))] [6,7])
 (.ret))
 (.skip)))
 (.seq
 (.reg [mv 31 1,
 o1 32 (.call false (.f 120) [(.c (.s [48])),(.t 31)]),
 o1 33 (.bin .add (.c (.s [49])) (.t 32)),
 mv 9 33] [2,3,6,8,9])
 (.seq
 (.reg [mv 34 8,
 o1 35 (.fieldAddr 0 (.t 3)),
 o1 36 (.load false 1 (.t 35)),
 mv 37 9,
 o1 38 (.call false (.f 56) [(.t 34),(.t 36),(.t 37)]),
 mv 10 38] [2,3,6,8,9,10])
 (.seq
 (.seq
 (.reg [mv 39 8,
 o1 40 (.nilCheck (.t 39)),
 o1 41 (.fieldAddr 0 (.t 40)),
 o1 42 (.load false 1 (.t 41))] [2,3,6,8,9,10,42])
 (.cond (.t 42)
 (.seq
 (.reg [o1 43 (.build [(.s []),(.s [])] []),
 ⟨none,.store 2 (.t 6) (.t 43),none⟩,
 o1 7 (.move (.c (.i .i64 40)))] [6,7])
 (.ret))
 (.skip)))
 (.seq
 (.reg [mv 45 10,
 o1 46 (.fieldAddr 1 (.t 3)),
 o1 47 (.load false 1 (.t 46)),
 o1 48 (.call false (.f 47) [(.t 45),(.t 47)]),
 mv 44 48,
 o1 49 (.ext (.t 44) 0),
 o1 50 (.ext (.t 44) 1),
 o1 51 (.ext (.t 44) 2),
 mv 11 49,
 mv 12 50,
 mv 13 51] [2,6,8,9,11,12,13])
 (.seq
 (.seq
 (.reg [mv 52 8,
 mv 53 13,
 o1 54 (.bin .neq (.t 53) (.c (.i .i64 0))),
 o1 55 (.nilCheck (.t 52)),
 o1 56 (.fieldAddr 0 (.t 55)),
 ⟨none,.store 1 (.t 56) (.t 54),none⟩] [2,6,8,9,11,12])
 (.seq
 (.reg [mv 57 2,
 mv 58 57,
 ⟨(some 59),.move (.t 12),some (58,true)⟩,
 ⟨(some 60),.bin .neq (.t 59) (.c (.s [48])),some (58,true)⟩,
 o1 61 (.pick (.t 58) (.t 60) (.c (.b false)))] [6,8,9,11,61])
 (.cond (.t 61)
 (.reg [mv 62 8,
 mv 63 11,
 o1 64 (.call false (.f 114) [(.t 62),(.f 71),(.t 63),(.c (.s [49]))]),
 mv 11 64] [6,8,9,11])
 (.skip))))
 (.seq
 (.reg [mv 65 8,
 mv 66 11,
 mv 67 9,
 o1 68 (.call false (.f 57) [(.t 65),(.t 66),(.t 67)]),
 o1 69 (.ext (.t 68) 0),
 o1 70 (.ext (.t 68) 1),
 ⟨none,.store 2 (.t 6) (.t 69),none⟩,
 mv 7 70] [6,7])
 (.ret))))))))))
def c112:SF:=⟨71,[.cell 6 true 2,.t 7],b112,none⟩
def h113:Hints:=⟨[(0,[0]),(1,[0,3]),(2,[0,3,4]),(3,[0,3,4,10]),(5,[0,3,4,5]),(6,[0,3,4,5,16]),(7,[0,3,4,5]),(8,[0,3,4]),(4,[0,3,4]),(9,[6]),(10,[2])],[(9,2),(1,0)]⟩
def l113_0:C :=
 .seq
 (.seq
 (.reg [mv 9 4,
 o1 10 (.bin .neq (.t 9) (.c (.i .i64 0)))] [0,3,4,10])
 (.cond (.t 10)
 (.skip)
 (.exit 0)))
 (.seq
 (.block 1 (.seq
 (.reg [mv 13 4,
 o1 14 (.bin .rem (.t 13) (.c (.i .i64 10))),
 mv 5 14] [0,3,4,5])
 (.seq
 (.seq
 (.reg [mv 15 5,
 o1 16 (.bin .lss (.t 15) (.c (.i .i64 0)))] [0,3,4,5,16])
 (.cond (.t 16)
 (.reg [mv 17 5,
 o1 18 (.un .neg (.t 17)),
 mv 5 18] [0,3,4,5])
 (.skip)))
 (.reg [mv 19 3,
 mv 20 5,
 o1 21 (.bslice false 3 1 [(.i .i64 0)] 1 [(0,(.t 20))]),
 o1 22 (.app 3 1 8 (.t 19) (.t 21)),
 mv 3 22] [0,3,4]))))
 (.reg [mv 11 4,
 o1 12 (.bin .quo (.t 11) (.c (.i .i64 10))),
 mv 4 12] [0,3,4]))
def b113:C :=
 .seq
 (.reg [o1 2 (.move (.c (.s [])))] [0])
 (.seq
 (.reg [o1 3 (.newGr 3 1)] [0,3])
 (.seq
 (.seq
 (.reg [mv 8 0,
 mv 4 8] [0,3,4])
 (.block 0 (.loop l113_0)))
 (.seq
 (.reg [mv 24 0,
 o1 25 (.bin .lss (.t 24) (.c (.i .i64 0))),
 o1 26 (.frzM (.t 3)),
 o1 27 (.call false (.f 145) [(.t 25),(.t 26)]),
 mv 23 27,
 o1 28 (.ext (.t 23) 0),
 o1 29 (.ext (.t 23) 1),
 mv 6 28,
 mv 7 29] [6])
 (.seq
 (.reg [mv 30 6,
 mv 2 30] [2])
 (.ret)))))
def c113:SF:=⟨31,[.t 2],b113,none⟩
def h114:Hints:=⟨[(0,[0,1,2,3]),(1,[0,1,2,3,14]),(2,[8]),(3,[0,9,10]),(4,[9]),(5,[8])],[]⟩
def b114:C :=
 .seq
 (.reg [o1 8 (.move (.c (.s [])))] [0,1,2,3])
 (.seq
 (.seq
 (.reg [mv 11 0,
 o1 12 (.nilCheck (.t 11)),
 o1 13 (.fieldAddr 0 (.t 12)),
 o1 14 (.load false 1 (.t 13))] [0,1,2,3,14])
 (.cond (.t 14)
 (.seq
 (.reg [o1 8 (.move (.c (.s [])))] [8])
 (.ret))
 (.skip)))
 (.seq
 (.reg [mv 16 1,
 mv 17 2,
 mv 18 3,
 o1 19 (.call false (.t 16) [(.t 17),(.t 18)]),
 mv 15 19,
 o1 20 (.ext (.t 15) 0),
 o1 21 (.ext (.t 15) 1),
 mv 9 20,
 mv 10 21] [0,9,10])
 (.seq
 (.reg [mv 22 0,
 mv 23 10,
 o1 24 (.bin .neq (.t 23) (.c (.i .i64 0))),
 o1 25 (.nilCheck (.t 22)),
 o1 26 (.fieldAddr 0 (.t 25)),
 ⟨none,.store 1 (.t 26) (.t 24),none⟩] [9])
 (.seq
 (.reg [mv 27 9,
 mv 8 27] [8])
 (.ret)))))
def c114:SF:=⟨28,[.t 8],b114,none⟩
def h115:Hints:=⟨[(0,[0,1]),(1,[6,7,8]),(2,[6,7,17]),(3,[4,5]),(4,[4,5])],[]⟩
def b115:C :=
 .seq
 (.reg [o1 4 (.move (.c (.s []))),
 o1 5 (.move (.c (.i .i64 0)))] [0,1])
 (.seq
 (.reg [mv 10 0,
 mv 11 1,
 o1 12 (.call false (.f 101) [(.t 10),(.t 11)]),
 mv 9 12,
 o1 13 (.ext (.t 9) 0),
 o1 14 (.ext (.t 9) 1),
 o1 15 (.ext (.t 9) 2),
 o1 6 (.alloc 103 [(.b false),(.ls [])]),
 o1 7 (.alloc 103 [(.b false),(.ls [])]),
 ⟨none,.store 2 (.t 6) (.t 13),none⟩,
 ⟨none,.store 2 (.t 7) (.t 14),none⟩,
 mv 8 15] [6,7,8])
 (.seq
 (.seq
 (.reg [mv 16 8,
 o1 17 (.un .not (.t 16))] [6,7,17])
 (.cond (.t 17)
 (.seq
 (.reg [o1 4 (.move (.c (.s []))),
 o1 5 (.move (.c (.i .i64 30)))] [4,5])
 (.ret))
 (.skip)))
 (.seq
 (.draw [⟨0,o1 18 (.fieldAddr 0 (.t 6)),0,[]⟩,
 ⟨1,o1 19 (.load false 1 (.t 18)),0,[]⟩,
 ⟨2,o1 20 (.fieldAddr 0 (.t 7)),0,[]⟩,
 ⟨3,o1 21 (.load false 1 (.t 20)),0,[]⟩,
 ⟨4,o1 22 (.eqB true (.t 19) (.t 21)),0,[]⟩,
 ⟨5,o1 23 (.fieldAddr 1 (.t 6)),0,[]⟩,
 ⟨6,o1 24 (.load false 1 (.t 23)),0,[]⟩,
 ⟨7,o1 25 (.fieldAddr 1 (.t 7)),0,[]⟩,
 ⟨8,o1 26 (.load false 1 (.t 25)),0,[]⟩,
 ⟨9,o1 27 (.call false (.f 164) [(.t 24),(.t 26)]),1,[3,1]⟩,
 ⟨10,o1 28 (.build [(.b false),(.ls [])] [(0,1,(.t 22)),(1,1,(.t 27))]),0,[]⟩,
 ⟨11,o1 29 (.call false (.f 106) [(.t 28)]),1,[]⟩,
 ⟨12,o1 30 (.ext (.t 29) 0),0,[]⟩,
 ⟨13,o1 31 (.ext (.t 29) 1),0,[]⟩,
 ⟨14,mv 4 30,0,[]⟩,
 ⟨15,mv 5 31,0,[]⟩] [4,5])
 (.ret))))
def c115:SF:=⟨32,[.t 4,.t 5],b115,none⟩
def h116:Hints:=⟨[(0,[0,1,2]),(1,[6])],[]⟩
def b116:C :=
 .seq
 (.reg [o1 6 (.move (.c (.s [])))] [0,1,2])
 (.seq
 (.reg [mv 7 0,
 mv 8 1,
 mv 9 2,
 o1 10 (.call false (.f 114) [(.t 7),(.f 165),(.t 8),(.t 9)]),
 mv 6 10] [6])
 (.ret))
def c116:SF:=⟨11,[.t 6],b116,none⟩
def h117:Hints:=⟨[(0,[2,3,4]),(1,[2,3,4,5]),(3,[2,3,4,19]),(4,[4]),(2,[4]),(5,[4])],[]⟩
def b117:C :=
 .seq
 (.reg [o1 2 (.box 103 (.t 0)),
 o1 3 (.box 103 (.t 1)),
 o1 4 (.alloc 103 [(.b false),(.ls [])])] [2,3,4])
 (.seq
 (.block 0 (.seq
 (.reg [o1 6 (.fieldAddr 0 (.t 2)),
 o1 7 (.load false 1 (.t 6)),
 o1 8 (.fieldAddr 0 (.t 3)),
 o1 9 (.load false 1 (.t 8)),
 o1 10 (.eqB false (.t 7) (.t 9)),
 mv 5 10] [2,3,4,5])
 (.cond (.t 5)
 (.seq
 (.draw [⟨0,o1 11 (.fieldAddr 0 (.t 2)),0,[]⟩,
 ⟨1,o1 12 (.load false 1 (.t 11)),0,[]⟩,
 ⟨2,o1 13 (.fieldAddr 1 (.t 2)),0,[]⟩,
 ⟨3,o1 14 (.load false 1 (.t 13)),0,[]⟩,
 ⟨4,o1 15 (.fieldAddr 1 (.t 3)),0,[]⟩,
 ⟨5,o1 16 (.load false 1 (.t 15)),0,[]⟩,
 ⟨6,o1 17 (.call false (.f 103) [(.t 14),(.t 16)]),1,[1]⟩,
 ⟨7,o1 18 (.build [(.b false),(.ls [])] [(0,1,(.t 12)),(1,1,(.t 17))]),0,[]⟩,
 ⟨8,⟨none,.store 2 (.t 4) (.t 18),none⟩,1,[]⟩] [4])
 (.ret))
 (.seq
 (.reg [o1 20 (.fieldAddr 1 (.t 2)),
 o1 21 (.load false 1 (.t 20)),
 o1 22 (.fieldAddr 1 (.t 3)),
 o1 23 (.load false 1 (.t 22)),
 o1 24 (.call false (.f 107) [(.t 21),(.t 23)]),
 o1 25 (.bin .geq (.t 24) (.c (.i .i64 0))),
 mv 19 25] [2,3,4,19])
 (.cond (.t 19)
 (.seq
 (.draw [⟨0,o1 26 (.fieldAddr 0 (.t 2)),0,[]⟩,
 ⟨1,o1 27 (.load false 1 (.t 26)),0,[]⟩,
 ⟨2,o1 28 (.fieldAddr 1 (.t 2)),0,[]⟩,
 ⟨3,o1 29 (.load false 1 (.t 28)),0,[]⟩,
 ⟨4,o1 30 (.fieldAddr 1 (.t 3)),0,[]⟩,
 ⟨5,o1 31 (.load false 1 (.t 30)),0,[]⟩,
 ⟨6,o1 32 (.call false (.f 105) [(.t 29),(.t 31)]),1,[1]⟩,
 ⟨7,o1 33 (.build [(.b false),(.ls [])] [(0,1,(.t 27)),(1,1,(.t 32))]),0,[]⟩,
 ⟨8,⟨none,.store 2 (.t 4) (.t 33),none⟩,1,[]⟩] [4])
 (.ret))
 (.skip))))))
 (.seq
 (.draw [⟨0,o1 34 (.fieldAddr 0 (.t 3)),0,[]⟩,
 ⟨1,o1 35 (.load false 1 (.t 34)),0,[]⟩,
 ⟨2,o1 36 (.fieldAddr 1 (.t 3)),0,[]⟩,
 ⟨3,o1 37 (.load false 1 (.t 36)),0,[]⟩,
 ⟨4,o1 38 (.fieldAddr 1 (.t 2)),0,[]⟩,
 ⟨5,o1 39 (.load false 1 (.t 38)),0,[]⟩,
 ⟨6,o1 40 (.call false (.f 105) [(.t 37),(.t 39)]),1,[1]⟩,
 ⟨7,o1 41 (.build [(.b false),(.ls [])] [(0,1,(.t 35)),(1,1,(.t 40))]),0,[]⟩,
 ⟨8,⟨none,.store 2 (.t 4) (.t 41),none⟩,1,[]⟩] [4])
 (.ret)))
def c117:SF:=⟨42,[.cell 4 true 2],b117,none⟩
def h118:Hints:=⟨[(0,[0,1]),(1,[0,1,17]),(2,[4,5]),(3,[1,6,7]),(4,[6,7,8,9]),(5,[4,5])],[]⟩
def b118:C :=
 .seq
 (.reg [o1 4 (.move (.c (.s []))),
 o1 5 (.move (.c (.i .i64 0)))] [0,1])
 (.seq
 (.seq
 (.reg [mv 10 0,
 o1 11 (.call false (.f 79) [(.t 10)]),
 o1 12 (.un .not (.t 11)),
 mv 13 12,
 ⟨(some 14),.move (.t 1),some (13,false)⟩,
 ⟨(some 15),.call false (.f 79) [(.t 14)],some (13,false)⟩,
 ⟨(some 16),.un .not (.t 15),some (13,false)⟩,
 o1 17 (.pick (.t 13) (.c (.b true)) (.t 16))] [0,1,17])
 (.cond (.t 17)
 (.seq
 (.reg [o1 4 (.move (.c (.s []))),
 o1 5 (.move (.c (.i .i64 30)))] [4,5])
 (.ret))
 (.skip)))
 (.seq
 (.reg [mv 19 0,
 o1 20 (.call false (.f 124) [(.t 19)]),
 mv 18 20,
 o1 21 (.ext (.t 18) 0),
 o1 22 (.ext (.t 18) 1),
 mv 6 21,
 mv 7 22] [1,6,7])
 (.seq
 (.reg [mv 24 1,
 o1 25 (.call false (.f 124) [(.t 24)]),
 mv 23 25,
 o1 26 (.ext (.t 23) 0),
 o1 27 (.ext (.t 23) 1),
 mv 8 26,
 mv 9 27] [6,7,8,9])
 (.seq
 (.reg [mv 28 6,
 mv 29 8,
 o1 30 (.eqB true (.t 28) (.t 29)),
 mv 31 7,
 mv 32 9,
 o1 33 (.call false (.f 166) [(.t 31),(.t 32)]),
 o1 34 (.call false (.f 128) [(.t 30),(.t 33)]),
 o1 35 (.ext (.t 34) 0),
 o1 36 (.ext (.t 34) 1),
 mv 4 35,
 mv 5 36] [4,5])
 (.ret)))))
def c118:SF:=⟨37,[.t 4,.t 5],b118,none⟩
def h119:Hints:=⟨[(0,[0,1]),(1,[0,1,17]),(2,[4,5]),(3,[1,6,7]),(4,[6,7,8,9]),(5,[4,5])],[]⟩
def b119:C :=
 .seq
 (.reg [o1 4 (.move (.c (.s []))),
 o1 5 (.move (.c (.i .i64 0)))] [0,1])
 (.seq
 (.seq
 (.reg [mv 10 0,
 o1 11 (.call false (.f 79) [(.t 10)]),
 o1 12 (.un .not (.t 11)),
 mv 13 12,
 ⟨(some 14),.move (.t 1),some (13,false)⟩,
 ⟨(some 15),.call false (.f 79) [(.t 14)],some (13,false)⟩,
 ⟨(some 16),.un .not (.t 15),some (13,false)⟩,
 o1 17 (.pick (.t 13) (.c (.b true)) (.t 16))] [0,1,17])
 (.cond (.t 17)
 (.seq
 (.reg [o1 4 (.move (.c (.s []))),
 o1 5 (.move (.c (.i .i64 30)))] [4,5])
 (.ret))
 (.skip)))
 (.seq
 (.reg [mv 19 0,
 o1 20 (.call false (.f 124) [(.t 19)]),
 mv 18 20,
 o1 21 (.ext (.t 18) 0),
 o1 22 (.ext (.t 18) 1),
 mv 6 21,
 mv 7 22] [1,6,7])
 (.seq
 (.reg [mv 24 1,
 o1 25 (.call false (.f 124) [(.t 24)]),
 mv 23 25,
 o1 26 (.ext (.t 23) 0),
 o1 27 (.ext (.t 23) 1),
 mv 8 26,
 mv 9 27] [6,7,8,9])
 (.seq
 (.reg [mv 28 6,
 mv 29 7,
 mv 30 8,
 mv 31 9,
 o1 32 (.call false (.f 125) [(.t 28),(.t 29),(.t 30),(.t 31)]),
 o1 33 (.ext (.t 32) 0),
 o1 34 (.ext (.t 32) 1),
 mv 4 33,
 mv 5 34] [4,5])
 (.ret)))))
def c119:SF:=⟨35,[.t 4,.t 5],b119,none⟩
def h121:Hints:=⟨[(0,[0]),(1,[4,6]),(2,[4,23]),(3,[2,3]),(4,[4,7]),(5,[4,7,35]),(6,[4,7,8]),(7,[4,7,10]),(8,[4,7,10,54]),(9,[2,3]),(10,[4,7]),(11,[2,3])],[(4,7)]⟩
def l121_0:C :=
 .seq
 (.seq
 (.reg [o1 32 (.fieldAddr 1 (.t 4)),
 o1 33 (.load false 1 (.t 32)),
 o1 34 (.len false (.t 33)),
 o1 35 (.bin .gtr (.t 34) (.c (.i .i64 0)))] [4,7,35])
 (.cond (.t 35)
 (.skip)
 (.exit 0)))
 (.block 1 (.seq
 (.reg [o1 37 (.fieldAddr 1 (.t 4)),
 o1 38 (.load false 1 (.t 37)),
 mv 39 7,
 o1 40 (.call false (.f 102) [(.t 38),(.t 39)]),
 mv 36 40,
 o1 41 (.ext (.t 36) 0),
 o1 42 (.ext (.t 36) 1),
 mv 8 41,
 mv 9 42] [4,7,8])
 (.seq
 (.reg [mv 44 7,
 mv 45 8,
 o1 46 (.call false (.f 103) [(.t 44),(.t 45)]),
 o1 47 (.bslice false 3 1 [(.i .i64 0)] 1 [(0,(.c (.i .i64 2)))]),
 o1 48 (.call false (.f 102) [(.t 46),(.t 47)]),
 mv 43 48,
 o1 49 (.ext (.t 43) 0),
 o1 50 (.ext (.t 43) 1),
 mv 10 49,
 mv 11 50] [4,7,10])
 (.seq
 (.seq
 (.reg [mv 51 10,
 mv 52 7,
 o1 53 (.call false (.f 107) [(.t 51),(.t 52)]),
 o1 54 (.bin .geq (.t 53) (.c (.i .i64 0)))] [4,7,10,54])
 (.cond (.t 54)
 (.seq
 (.reg [mv 55 7,
 o1 56 (.build [(.b false),(.ls [])] [(1,1,(.t 55))]),
 o1 57 (.call false (.f 106) [(.t 56)]),
 o1 58 (.ext (.t 57) 0),
 o1 59 (.ext (.t 57) 1),
 mv 2 58,
 mv 3 59] [2,3])
 (.ret))
 (.skip)))
 (.reg [mv 60 10,
 mv 7 60] [4,7])))))
def b121:C :=
 .seq
 (.reg [o1 2 (.move (.c (.s []))),
 o1 3 (.move (.c (.i .i64 0)))] [0])
 (.seq
 (.reg [mv 13 0,
 o1 14 (.call false (.f 101) [(.t 13),(.c (.s [48]))]),
 mv 12 14,
 o1 15 (.ext (.t 12) 0),
 o1 16 (.ext (.t 12) 1),
 o1 17 (.ext (.t 12) 2),
 o1 4 (.alloc 103 [(.b false),(.ls [])]),
 o1 5 (.alloc 103 [(.b false),(.ls [])]),
 ⟨none,.store 2 (.t 4) (.t 15),none⟩,
 ⟨none,.store 2 (.t 5) (.t 16),none⟩,
 mv 6 17] [4,6])
 (.seq
 (.seq
 (.reg [mv 18 6,
 o1 19 (.un .not (.t 18)),
 mv 20 19,
 ⟨(some 21),.fieldAddr 0 (.t 4),some (20,false)⟩,
 ⟨(some 22),.load false 1 (.t 21),some (20,false)⟩,
 o1 23 (.pick (.t 20) (.c (.b true)) (.t 22))] [4,23])
 (.cond (.t 23)
 (.seq
 (.reg [o1 2 (.move (.c (.s []))),
 o1 3 (.move (.c (.i .i64 30)))] [2,3])
 (.ret))
 (.skip)))
 (.seq
 (.reg [o1 24 (.fieldAddr 1 (.t 4)),
 o1 25 (.load false 1 (.t 24)),
 o1 26 (.len false (.t 25)),
 o1 27 (.bin .add (.t 26) (.c (.i .i64 1))),
 o1 28 (.bin .quo (.t 27) (.c (.i .i64 2))),
 o1 29 (.mkSl 3 1 8 [(.i .i64 0)] (.t 28) (.t 28)),
 o1 30 (.bslice false 3 1 [(.i .i64 0)] 1 [(0,(.c (.i .i64 1)))]),
 o1 31 (.appF 3 1 8 (.t 29) (.t 30)),
 mv 7 31] [4,7])
 (.seq
 (.block 0 (.loop l121_0))
 (.seq
 (.reg [o1 2 (.move (.c (.s [48]))),
 o1 3 (.move (.c (.i .i64 0)))] [2,3])
 (.ret))))))
def c121:SF:=⟨61,[.t 2,.t 3],b121,none⟩
def h122:Hints:=⟨[(0,[0,1,4]),(1,[0,1,4,9]),(2,[0,1,4]),(3,[0,1,4,5]),(4,[0,1,4,5,6]),(5,[0,1,4,5,6,17]),(7,[0,1,4,5,6,27]),(8,[0,1,4,5,6]),(6,[0,1,4,5,6]),(9,[4])],[]⟩
def l122_0:C :=
 .seq
 (.seq
 (.reg [mv 14 6,
 mv 15 0,
 o1 16 (.len false (.t 15)),
 o1 17 (.bin .lss (.t 14) (.t 16))] [0,1,4,5,6,17])
 (.cond (.t 17)
 (.skip)
 (.exit 0)))
 (.seq
 (.block 1 (.seq
 (.draw [⟨0,mv 20 1,0,[]⟩,
 ⟨1,mv 21 0,0,[]⟩,
 ⟨2,mv 22 6,0,[]⟩,
 ⟨3,o1 23 (.ixS 2 (.t 21) (.t 22)),0,[]⟩,
 ⟨4,o1 24 (.load true 2 (.t 23)),0,[]⟩,
 ⟨5,o1 25 (.load true 2 (.t 5)),0,[]⟩,
 ⟨6,o1 26 (.call false (.t 20) [(.t 24),(.t 25)]),1,[]⟩,
 ⟨7,o1 27 (.bin .lss (.t 26) (.c (.i .i64 0))),0,[]⟩] [0,1,4,5,6,27])
 (.cond (.t 27)
 (.reg [mv 28 0,
 mv 29 6,
 o1 30 (.ixS 2 (.t 28) (.t 29)),
 o1 31 (.load true 2 (.t 30)),
 ⟨none,.store 2 (.t 5) (.t 31),none⟩] [0,1,4,5,6])
 (.skip))))
 (.reg [mv 18 6,
 o1 19 (.bin .add (.t 18) (.c (.i .i64 1))),
 mv 6 19] [0,1,4,5,6]))
def b122:C :=
 .seq
 (.reg [o1 4 (.alloc 26 [(.s []),(.s [])])] [0,1,4])
 (.seq
 (.seq
 (.reg [mv 7 0,
 o1 8 (.len false (.t 7)),
 o1 9 (.bin .lss (.t 8) (.c (.i .i64 1)))] [0,1,4,9])
 (.cond (.t 9)
 (.reg [o1 10 (.mkI 9 (.c (.s [115,108,105,99,101,115,46,77,105,110,70,117,110,99,58,32,101,109,112,116,121,32,108,105,115,116]))),
 ⟨none,.panic (.t 10),none⟩] [0,1,4])
 (.skip)))
 (.seq
 (.reg [mv 11 0,
 o1 12 (.ixS 2 (.t 11) (.c (.i .i64 0))),
 o1 13 (.load true 2 (.t 12)),
 o1 5 (.alloc 26 [(.s []),(.s [])]),
 ⟨none,.store 2 (.t 5) (.t 13),none⟩] [0,1,4,5])
 (.seq
 (.seq
 (.reg [o1 6 (.move (.c (.i .i64 1)))] [0,1,4,5,6])
 (.block 0 (.loop l122_0)))
 (.seq
 (.reg [o1 32 (.load true 2 (.t 5)),
 ⟨none,.store 2 (.t 4) (.t 32),none⟩] [4])
 (.ret)))))
def c122:SF:=⟨33,[.cell 4 true 2],b122,none⟩
def h123:Hints:=⟨[(0,[0,1,4]),(1,[0,1,4,9]),(2,[0,1,4]),(3,[0,1,4,5]),(4,[0,1,4,5,6]),(5,[0,1,4,5,6,17]),(7,[0,1,4,5,6,27]),(8,[0,1,4,5,6]),(6,[0,1,4,5,6]),(9,[4])],[]⟩
def l123_0:C :=
 .seq
 (.seq
 (.reg [mv 14 6,
 mv 15 0,
 o1 16 (.len false (.t 15)),
 o1 17 (.bin .lss (.t 14) (.t 16))] [0,1,4,5,6,17])
 (.cond (.t 17)
 (.skip)
 (.exit 0)))
 (.seq
 (.block 1 (.seq
 (.draw [⟨0,mv 20 1,0,[]⟩,
 ⟨1,mv 21 0,0,[]⟩,
 ⟨2,mv 22 6,0,[]⟩,
 ⟨3,o1 23 (.ixS 2 (.t 21) (.t 22)),0,[]⟩,
 ⟨4,o1 24 (.load true 2 (.t 23)),0,[]⟩,
 ⟨5,o1 25 (.load true 2 (.t 5)),0,[]⟩,
 ⟨6,o1 26 (.call false (.t 20) [(.t 24),(.t 25)]),1,[]⟩,
 ⟨7,o1 27 (.bin .gtr (.t 26) (.c (.i .i64 0))),0,[]⟩] [0,1,4,5,6,27])
 (.cond (.t 27)
 (.reg [mv 28 0,
 mv 29 6,
 o1 30 (.ixS 2 (.t 28) (.t 29)),
 o1 31 (.load true 2 (.t 30)),
 ⟨none,.store 2 (.t 5) (.t 31),none⟩] [0,1,4,5,6])
 (.skip))))
 (.reg [mv 18 6,
 o1 19 (.bin .add (.t 18) (.c (.i .i64 1))),
 mv 6 19] [0,1,4,5,6]))
def b123:C :=
 .seq
 (.reg [o1 4 (.alloc 26 [(.s []),(.s [])])] [0,1,4])
 (.seq
 (.seq
 (.reg [mv 7 0,
 o1 8 (.len false (.t 7)),
 o1 9 (.bin .lss (.t 8) (.c (.i .i64 1)))] [0,1,4,9])
 (.cond (.t 9)
 (.reg [o1 10 (.mkI 9 (.c (.s [115,108,105,99,101,115,46,77,97,120,70,117,110,99,58,32,101,109,112,116,121,32,108,105,115,116]))),
 ⟨none,.panic (.t 10),none⟩] [0,1,4])
 (.skip)))
 (.seq
 (.reg [mv 11 0,
 o1 12 (.ixS 2 (.t 11) (.c (.i .i64 0))),
 o1 13 (.load true 2 (.t 12)),
 o1 5 (.alloc 26 [(.s []),(.s [])]),
 ⟨none,.store 2 (.t 5) (.t 13),none⟩] [0,1,4,5])
 (.seq
 (.seq
 (.reg [o1 6 (.move (.c (.i .i64 1)))] [0,1,4,5,6])
 (.block 0 (.loop l123_0)))
 (.seq
 (.reg [o1 32 (.load true 2 (.t 5)),
 ⟨none,.store 2 (.t 4) (.t 32),none⟩] [4])
 (.ret)))))
def c123:SF:=⟨33,[.cell 4 true 2],b123,none⟩
def h124:Hints:=⟨[(0,[0]),(1,[0,4]),(2,[0,4,10]),(3,[0,4]),(4,[0,4,5]),(5,[0,4,5,6]),(6,[0,4,5,6,21]),(8,[0,4,5,6]),(7,[0,4,5,6]),(9,[2,3])],[(4,0)]⟩
def l124_0:C :=
 .seq
 (.seq
 (.reg [mv 16 6,
 o1 17 (.bin .geq (.t 16) (.c (.i .i64 0))),
 mv 18 17,
 ⟨(some 19),.move (.t 0),some (18,true)⟩,
 ⟨(some 20),.bin .neq (.t 19) (.c (.s [48])),some (18,true)⟩,
 o1 21 (.pick (.t 18) (.t 20) (.c (.b false)))] [0,4,5,6,21])
 (.cond (.t 21)
 (.skip)
 (.exit 0)))
 (.seq
 (.block 1 (.reg [mv 24 5,
 mv 25 0,
 mv 26 6,
 o1 27 (.ixStr (.t 25) (.t 26)),
 o1 28 (.bin .sub (.t 27) (.c (.i .u8 48))),
 o1 29 (.conv .i64 (.t 28)),
 o1 30 (.bslice false 3 1 [(.i .i64 0)] 1 [(0,(.t 29))]),
 o1 31 (.app 3 1 8 (.t 24) (.t 30)),
 mv 5 31] [0,4,5,6]))
 (.reg [mv 22 6,
 o1 23 (.bin .sub (.t 22) (.c (.i .i64 1))),
 mv 6 23] [0,4,5,6]))
def b124:C :=
 .seq
 (.reg [o1 2 (.move (.c (.b false))),
 o1 3 (.move (.c (.ls [])))] [0])
 (.seq
 (.reg [mv 7 0,
 o1 8 (.ixStr (.t 7) (.c (.i .i64 0))),
 o1 9 (.bin .eql (.t 8) (.c (.i .u8 45))),
 mv 4 9] [0,4])
 (.seq
 (.seq
 (.reg [mv 10 4] [0,4,10])
 (.cond (.t 10)
 (.reg [mv 11 0,
 o1 12 (.slS (.t 11) (some (.c (.i .i64 1))) none),
 mv 0 12] [0,4])
 (.skip)))
 (.seq
 (.reg [o1 5 (.newGr 3 1)] [0,4,5])
 (.seq
 (.seq
 (.reg [mv 13 0,
 o1 14 (.len true (.t 13)),
 o1 15 (.bin .sub (.t 14) (.c (.i .i64 1))),
 mv 6 15] [0,4,5,6])
 (.block 0 (.loop l124_0)))
 (.seq
 (.reg [mv 32 4,
 mv 33 5,
 mv 2 32,
 mv 3 33] [2,3])
 (.ret))))))
def c124:SF:=⟨34,[.t 2,.t 3],b124,none⟩
def h125:Hints:=⟨[(0,[0,1,2,3]),(1,[0,1,2,3,10]),(2,[0,1,2,3,10]),(3,[1,2,3,10,15]),(5,[1,2,3,10,22]),(7,[1,3,10]),(8,[10,11]),(6,[10,11]),(4,[10,11]),(9,[8,9])],[]⟩
def b125:C :=
 .seq
 (.reg [o1 8 (.move (.c (.s []))),
 o1 9 (.move (.c (.i .i64 0)))] [0,1,2,3])
 (.seq
 (.reg [mv 12 0,
 mv 10 12] [0,1,2,3,10])
 (.seq
 (.reg [o1 11 (.move (.c (.ls [])))] [0,1,2,3,10])
 (.seq
 (.seq
 (.reg [mv 13 0,
 mv 14 2,
 o1 15 (.eqB false (.t 13) (.t 14))] [1,2,3,10,15])
 (.cond (.t 15)
 (.reg [mv 16 1,
 mv 17 3,
 o1 18 (.call false (.f 143) [(.t 16),(.t 17)]),
 mv 11 18] [10,11])
 (.seq
 (.reg [mv 19 1,
 mv 20 3,
 o1 21 (.call false (.f 126) [(.t 19),(.t 20)]),
 o1 22 (.bin .geq (.t 21) (.c (.i .i64 0)))] [1,2,3,10,22])
 (.cond (.t 22)
 (.reg [mv 23 1,
 mv 24 3,
 o1 25 (.call false (.f 144) [(.t 23),(.t 24)]),
 mv 11 25] [10,11])
 (.seq
 (.reg [mv 26 2,
 mv 10 26] [1,3,10])
 (.reg [mv 27 3,
 mv 28 1,
 o1 29 (.call false (.f 144) [(.t 27),(.t 28)]),
 mv 11 29] [10,11]))))))
 (.seq
 (.reg [mv 30 10,
 mv 31 11,
 o1 32 (.call false (.f 128) [(.t 30),(.t 31)]),
 o1 33 (.ext (.t 32) 0),
 o1 34 (.ext (.t 32) 1),
 mv 8 33,
 mv 9 34] [8,9])
 (.ret)))))
def c125:SF:=⟨35,[.t 8,.t 9],b125,none⟩
def h126:Hints:=⟨[(0,[0,1]),(1,[0,1,10]),(2,[15]),(3,[4]),(4,[4]),(5,[0,1,5]),(6,[0,1,5,20]),(8,[0,1,5,31]),(9,[40]),(10,[4]),(11,[4]),(7,[0,1,5]),(12,[4])],[]⟩
def l126_0:C :=
 .seq
 (.seq
 (.reg [mv 19 5,
 o1 20 (.bin .geq (.t 19) (.c (.i .i64 0)))] [0,1,5,20])
 (.cond (.t 20)
 (.skip)
 (.exit 0)))
 (.seq
 (.block 1 (.seq
 (.draw [⟨0,mv 23 0,0,[]⟩,
 ⟨1,mv 24 5,0,[]⟩,
 ⟨2,o1 25 (.ixS 1 (.t 23) (.t 24)),0,[]⟩,
 ⟨3,o1 26 (.load false 1 (.t 25)),0,[]⟩,
 ⟨4,mv 27 1,0,[]⟩,
 ⟨5,mv 28 5,0,[]⟩,
 ⟨6,o1 29 (.ixS 1 (.t 27) (.t 28)),0,[]⟩,
 ⟨7,o1 30 (.load false 1 (.t 29)),0,[]⟩,
 ⟨8,o1 31 (.bin .neq (.t 26) (.t 30)),0,[]⟩] [0,1,5,31])
 (.cond (.t 31)
 (.seq
 (.seq
 (.draw [⟨0,mv 32 0,0,[]⟩,
 ⟨1,mv 33 5,0,[]⟩,
 ⟨2,o1 34 (.ixS 1 (.t 32) (.t 33)),0,[]⟩,
 ⟨3,o1 35 (.load false 1 (.t 34)),0,[]⟩,
 ⟨4,mv 36 1,0,[]⟩,
 ⟨5,mv 37 5,0,[]⟩,
 ⟨6,o1 38 (.ixS 1 (.t 36) (.t 37)),0,[]⟩,
 ⟨7,o1 39 (.load false 1 (.t 38)),0,[]⟩,
 ⟨8,o1 40 (.bin .lss (.t 35) (.t 39)),0,[]⟩] [40])
 (.cond (.t 40)
 (.seq
 (.reg [o1 4 (.move (.c (.i .i64 (-1))))] [4])
 (.ret))
 (.skip)))
 (.seq
 (.reg [o1 4 (.move (.c (.i .i64 1)))] [4])
 (.ret)))
 (.skip))))
 (.reg [mv 21 5,
 o1 22 (.bin .sub (.t 21) (.c (.i .i64 1))),
 mv 5 22] [0,1,5]))
def b126:C :=
 .seq
 (.reg [o1 4 (.move (.c (.i .i64 0)))] [0,1])
 (.seq
 (.seq
 (.reg [mv 6 0,
 o1 7 (.len false (.t 6)),
 mv 8 1,
 o1 9 (.len false (.t 8)),
 o1 10 (.bin .neq (.t 7) (.t 9))] [0,1,10])
 (.cond (.t 10)
 (.seq
 (.seq
 (.reg [mv 11 0,
 o1 12 (.len false (.t 11)),
 mv 13 1,
 o1 14 (.len false (.t 13)),
 o1 15 (.bin .lss (.t 12) (.t 14))] [15])
 (.cond (.t 15)
 (.seq
 (.reg [o1 4 (.move (.c (.i .i64 (-1))))] [4])
 (.ret))
 (.skip)))
 (.seq
 (.reg [o1 4 (.move (.c (.i .i64 1)))] [4])
 (.ret)))
 (.skip)))
 (.seq
 (.seq
 (.reg [mv 16 0,
 o1 17 (.len false (.t 16)),
 o1 18 (.bin .sub (.t 17) (.c (.i .i64 1))),
 mv 5 18] [0,1,5])
 (.block 0 (.loop l126_0)))
 (.seq
 (.reg [o1 4 (.move (.c (.i .i64 0)))] [4])
 (.ret))))
def c126:SF:=⟨41,[.t 4],b126,none⟩
def h127:Hints:=⟨[(0,[0,1]),(1,[0,1,6]),(2,[0,1,6,7]),(3,[0,1,6,7,8]),(4,[0,1,6,7,8,16]),(6,[0,1,6,7,8]),(7,[0,1,6,7,8,30]),(8,[0,1,6,7,8]),(9,[0,1,6,7,8]),(5,[0,1,6,7,8]),(10,[4,5])],[(6,4),(6,6),(10,0)]⟩
def l127_0:C :=
 .seq
 (.seq
 (.reg [mv 27 7,
 mv 28 1,
 o1 29 (.call false (.f 126) [(.t 27),(.t 28)]),
 o1 30 (.bin .geq (.t 29) (.c (.i .i64 0)))] [0,1,6,7,8,30])
 (.cond (.t 30)
 (.skip)
 (.exit 2)))
 (.block 3 (.seq
 (.reg [mv 31 7,
 mv 32 1,
 o1 33 (.call false (.f 144) [(.t 31),(.t 32)]),
 mv 7 33] [0,1,6,7,8])
 (.reg [mv 34 6,
 mv 35 8,
 o1 36 (.ixS 1 (.t 34) (.t 35)),
 o1 37 (.load false 1 (.t 36)),
 o1 38 (.bin .add (.t 37) (.c (.i .i64 1))),
 o1 39 (.ixS 1 (.t 34) (.t 35)),
 ⟨none,.store 1 (.t 39) (.t 38),none⟩] [0,1,6,7,8])))
def l127_1:C :=
 .seq
 (.seq
 (.reg [mv 15 8,
 o1 16 (.bin .geq (.t 15) (.c (.i .i64 0)))] [0,1,6,7,8,16])
 (.cond (.t 16)
 (.skip)
 (.exit 0)))
 (.seq
 (.block 1 (.seq
 (.reg [mv 19 0,
 mv 20 8,
 o1 21 (.ixS 1 (.t 19) (.t 20)),
 o1 22 (.load false 1 (.t 21)),
 o1 23 (.bslice true 3 1 [(.i .i64 0)] 1 [(0,(.t 22))]),
 mv 24 7,
 o1 25 (.appF 3 1 8 (.t 23) (.t 24)),
 o1 26 (.call false (.f 171) [(.t 25)]),
 mv 7 26] [0,1,6,7,8])
 (.block 2 (.loop l127_0))))
 (.reg [mv 17 8,
 o1 18 (.bin .sub (.t 17) (.c (.i .i64 1))),
 mv 8 18] [0,1,6,7,8]))
def b127:C :=
 .seq
 (.reg [o1 4 (.move (.c (.ls []))),
 o1 5 (.move (.c (.ls [])))] [0,1])
 (.seq
 (.reg [mv 9 0,
 o1 10 (.len false (.t 9)),
 o1 11 (.mkSl 3 1 8 [(.i .i64 0)] (.t 10) (.t 10)),
 mv 6 11] [0,1,6])
 (.seq
 (.reg [o1 7 (.move (.c (.ls [])))] [0,1,6,7])
 (.seq
 (.seq
 (.reg [mv 12 0,
 o1 13 (.len false (.t 12)),
 o1 14 (.bin .sub (.t 13) (.c (.i .i64 1))),
 mv 8 14] [0,1,6,7,8])
 (.block 0 (.loop l127_1)))
 (.seq
 (.reg [o1 40 (.frzM (.t 6)),
 o1 41 (.call false (.f 171) [(.t 40)]),
 mv 42 7,
 mv 4 41,
 mv 5 42] [4,5])
 (.ret)))))
def c127:SF:=⟨43,[.t 4,.t 5],b127,none⟩
def h128:Hints:=⟨[(0,[0,1]),(1,[6,7]),(2,[6,15]),(3,[4,5]),(4,[4,5])],[]⟩
def b128:C :=
 .seq
 (.reg [o1 4 (.move (.c (.s []))),
 o1 5 (.move (.c (.i .i64 0)))] [0,1])
 (.seq
 (.reg [mv 9 0,
 mv 10 1,
 o1 11 (.call false (.f 145) [(.t 9),(.t 10)]),
 mv 8 11,
 o1 12 (.ext (.t 8) 0),
 o1 13 (.ext (.t 8) 1),
 mv 6 12,
 mv 7 13] [6,7])
 (.seq
 (.seq
 (.reg [mv 14 7,
 o1 15 (.un .not (.t 14))] [6,15])
 (.cond (.t 15)
 (.seq
 (.reg [o1 4 (.move (.c (.s []))),
 o1 5 (.move (.c (.i .i64 30)))] [4,5])
 (.ret))
 (.skip)))
 (.seq
 (.reg [mv 16 6,
 mv 4 16,
 o1 5 (.move (.c (.i .i64 0)))] [4,5])
 (.ret))))
def c128:SF:=⟨17,[.t 4,.t 5],b128,none⟩
def h129:Hints:=⟨[(0,[0,1,2,3]),(1,[3])],[]⟩
def b129:C :=
 .seq
 (.reg [o1 3 (.alloc 29 [(.s []),(.s []),(.s []),(.s [])])] [0,1,2,3])
 (.seq
 (.draw [⟨0,o1 4 (.load false 1 (.t 0)),0,[]⟩,
 ⟨1,o1 5 (.fieldAddr 0 (.t 1)),0,[]⟩,
 ⟨2,o1 6 (.load true 2 (.t 5)),0,[]⟩,
 ⟨3,o1 7 (.fieldAddr 0 (.t 2)),0,[]⟩,
 ⟨4,o1 8 (.load true 2 (.t 7)),0,[]⟩,
 ⟨6,o1 10 (.load false 1 (.t 0)),0,[]⟩,
 ⟨7,o1 11 (.fieldAddr 2 (.t 1)),0,[]⟩,
 ⟨8,o1 12 (.load true 2 (.t 11)),0,[]⟩,
 ⟨9,o1 13 (.fieldAddr 2 (.t 2)),0,[]⟩,
 ⟨10,o1 14 (.load true 2 (.t 13)),0,[]⟩,
 ⟨5,o1 9 (.call false (.f 130) [(.t 4),(.t 6),(.t 8)]),1,[10,8,6]⟩,
 ⟨11,o1 15 (.call false (.f 130) [(.t 10),(.t 12),(.t 14)]),1,[]⟩,
 ⟨12,o1 16 (.build [(.s []),(.s []),(.s []),(.s [])] [(0,2,(.t 9)),(2,2,(.t 15))]),0,[]⟩,
 ⟨13,⟨none,.store 4 (.t 3) (.t 16),none⟩,1,[]⟩] [3])
 (.ret))
def c129:SF:=⟨17,[.cell 3 true 4],b129,none⟩
def h130:Hints:=⟨[(0,[0,4,5,6]),(1,[6])],[]⟩
def b130:C :=
 .seq
 (.reg [o1 4 (.box 26 (.t 1)),
 o1 5 (.box 26 (.t 2)),
 o1 6 (.alloc 26 [(.s []),(.s [])])] [0,4,5,6])
 (.seq
 (.reg [mv 7 0,
 o1 8 (.load true 2 (.t 4)),
 o1 9 (.load true 2 (.t 5)),
 o1 10 (.call false (.t 7) [(.t 8),(.t 9)]),
 o1 11 (.ext (.t 10) 0),
 o1 12 (.ext (.t 10) 1),
 o1 13 (.call false (.f 51) [(.t 11),(.t 12)]),
 ⟨none,.store 2 (.t 6) (.t 13),none⟩] [6])
 (.ret))
def c130:SF:=⟨14,[.cell 6 true 2],b130,none⟩
def h131:Hints:=⟨[(0,[0,1,2,3]),(1,[3])],[]⟩
def b131:C :=
 .seq
 (.reg [o1 3 (.alloc 29 [(.s []),(.s []),(.s []),(.s [])])] [0,1,2,3])
 (.seq
 (.draw [⟨0,o1 4 (.load false 1 (.t 0)),0,[]⟩,
 ⟨1,o1 5 (.fieldAddr 0 (.t 1)),0,[]⟩,
 ⟨2,o1 6 (.load true 2 (.t 5)),0,[]⟩,
 ⟨3,o1 7 (.fieldAddr 2 (.t 2)),0,[]⟩,
 ⟨4,o1 8 (.load true 2 (.t 7)),0,[]⟩,
 ⟨6,o1 10 (.load false 1 (.t 0)),0,[]⟩,
 ⟨7,o1 11 (.fieldAddr 2 (.t 1)),0,[]⟩,
 ⟨8,o1 12 (.load true 2 (.t 11)),0,[]⟩,
 ⟨9,o1 13 (.fieldAddr 0 (.t 2)),0,[]⟩,
 ⟨10,o1 14 (.load true 2 (.t 13)),0,[]⟩,
 ⟨5,o1 9 (.call false (.f 130) [(.t 4),(.t 6),(.t 8)]),1,[10,8,6]⟩,
 ⟨11,o1 15 (.call false (.f 130) [(.t 10),(.t 12),(.t 14)]),1,[]⟩,
 ⟨12,o1 16 (.build [(.s []),(.s []),(.s []),(.s [])] [(0,2,(.t 9)),(2,2,(.t 15))]),0,[]⟩,
 ⟨13,⟨none,.store 4 (.t 3) (.t 16),none⟩,1,[]⟩] [3])
 (.ret))
def c131:SF:=⟨17,[.cell 3 true 4],b131,none⟩
def h132:Hints:=⟨[(0,[2,3]),(1,[3,5]),(2,[5,6]),(3,[4])],[]⟩
def b132:C :=
 .seq
 (.reg [o1 2 (.box 29 (.t 0)),
 o1 3 (.box 29 (.t 1)),
 o1 4 (.move (.c (.b false)))] [2,3])
 (.seq
 (.reg [o1 7 (.load true 4 (.t 2)),
 o1 8 (.call false (.f 36) [(.t 7)]),
 mv 5 8] [3,5])
 (.seq
 (.reg [o1 9 (.load true 4 (.t 3)),
 o1 10 (.call false (.f 36) [(.t 9)]),
 mv 6 10] [5,6])
 (.seq
 (.reg [mv 11 5,
 mv 12 11,
 ⟨(some 13),.move (.t 6),some (12,true)⟩,
 o1 14 (.pick (.t 12) (.t 13) (.c (.b false))),
 mv 4 14] [4])
 (.ret))))
def c132:SF:=⟨15,[.t 4],b132,none⟩
def h133:Hints:=⟨[(0,[1,3,4,6,8]),(1,[4,6,8,15]),(2,[8,9]),(3,[8,9])],[]⟩
def b133:C :=
 .seq
 (.reg [o1 4 (.box 26 (.t 0)),
 o1 6 (.box 26 (.t 2)),
 o1 8 (.alloc 29 [(.s []),(.s []),(.s []),(.s [])]),
 o1 9 (.move (.c (.i .i64 0)))] [1,3,4,6,8])
 (.seq
 (.seq
 (.reg [mv 10 1,
 o1 11 (.bin .neq (.t 10) (.c (.i .i64 0))),
 mv 12 11,
 ⟨(some 13),.move (.t 3),some (12,false)⟩,
 ⟨(some 14),.bin .neq (.t 13) (.c (.i .i64 0)),some (12,false)⟩,
 o1 15 (.pick (.t 12) (.c (.b true)) (.t 14))] [4,6,8,15])
 (.cond (.t 15)
 (.seq
 (.reg [o1 16 (.build [(.s []),(.s []),(.s []),(.s [])] []),
 ⟨none,.store 4 (.t 8) (.t 16),none⟩,
 o1 9 (.move (.c (.i .i64 50)))] [8,9])
 (.ret))
 (.skip)))
 (.seq
 (.reg [o1 17 (.load true 2 (.t 4)),
 o1 18 (.load true 2 (.t 6)),
 o1 19 (.build [(.s []),(.s []),(.s []),(.s [])] [(0,2,(.t 17)),(2,2,(.t 18))]),
 ⟨none,.store 4 (.t 8) (.t 19),none⟩,
 o1 9 (.move (.c (.i .i64 0)))] [8,9])
 (.ret)))
def c133:SF:=⟨20,[.cell 8 true 4,.t 9],b133,none⟩
def h134:Hints:=⟨[(0,[2,3,4,6]),(1,[2,3,4,6,8]),(2,[2,3,4,6,8,9]),(3,[2,3,4,6,8,9,16]),(5,[2,3,4,6,8,9,10]),(6,[2,3,4,6,8,9,10,11]),(7,[2,3,4,6,8,9,10,11,12,13]),(8,[2,3,4,6,8,9,10,11,12,13,43]),(9,[2,3,4,6,8,9,12,13]),(10,[2,3,4,6,8,9,12,51]),(11,[6,7]),(12,[2,3,4,6,8,9,12,61]),(13,[2,3,4,6,8,9,12]),(14,[2,3,4,6,8,9,12,72]),(15,[2,3,4,6,8,9]),(4,[2,3,4,6,8,9]),(16,[6,7])],[]⟩
def l134_0:C :=
 .seq
 (.seq
 (.reg [mv 15 9,
 o1 16 (.bin .lss (.t 15) (.c (.i .i64 4)))] [2,3,4,6,8,9,16])
 (.cond (.t 16)
 (.skip)
 (.exit 0)))
 (.seq
 (.block 1 (.seq
 (.reg [o1 19 (.fieldAddr 0 (.t 3)),
 o1 20 (.load true 2 (.t 19)),
 o1 21 (.fieldAddr 2 (.t 3)),
 o1 22 (.load true 2 (.t 21)),
 o1 23 (.bslice false 26 2 [(.s []),(.s [])] 2 [(0,(.t 20)),(1,(.t 22))]),
 mv 24 9,
 o1 25 (.bin .quo (.t 24) (.c (.i .i64 2))),
 o1 26 (.ixS 2 (.t 23) (.t 25)),
 o1 27 (.load true 2 (.t 26)),
 o1 10 (.alloc 26 [(.s []),(.s [])]),
 ⟨none,.store 2 (.t 10) (.t 27),none⟩] [2,3,4,6,8,9,10])
 (.seq
 (.reg [o1 28 (.fieldAddr 0 (.t 4)),
 o1 29 (.load true 2 (.t 28)),
 o1 30 (.fieldAddr 2 (.t 4)),
 o1 31 (.load true 2 (.t 30)),
 o1 32 (.bslice false 26 2 [(.s []),(.s [])] 2 [(0,(.t 29)),(1,(.t 31))]),
 mv 33 9,
 o1 34 (.bin .rem (.t 33) (.c (.i .i64 2))),
 o1 35 (.ixS 2 (.t 32) (.t 34)),
 o1 36 (.load true 2 (.t 35)),
 o1 11 (.alloc 26 [(.s []),(.s [])]),
 ⟨none,.store 2 (.t 11) (.t 36),none⟩] [2,3,4,6,8,9,10,11])
 (.seq
 (.reg [o1 38 (.load true 2 (.t 10)),
 o1 39 (.load true 2 (.t 11)),
 o1 40 (.call false (.f 63) [(.t 38),(.t 39)]),
 mv 37 40,
 o1 41 (.ext (.t 37) 0),
 o1 42 (.ext (.t 37) 1),
 o1 12 (.alloc 26 [(.s []),(.s [])]),
 ⟨none,.store 2 (.t 12) (.t 41),none⟩,
 mv 13 42] [2,3,4,6,8,9,10,11,12,13])
 (.seq
 (.seq
 (.reg [mv 43 2] [2,3,4,6,8,9,10,11,12,13,43])
 (.cond (.t 43)
 (.reg [o1 45 (.load true 2 (.t 10)),
 o1 46 (.load true 2 (.t 11)),
 o1 47 (.call false (.f 172) [(.t 45),(.t 46)]),
 mv 44 47,
 o1 48 (.ext (.t 44) 0),
 o1 49 (.ext (.t 44) 1),
 ⟨none,.store 2 (.t 12) (.t 48),none⟩,
 mv 13 49] [2,3,4,6,8,9,12,13])
 (.skip)))
 (.seq
 (.seq
 (.reg [mv 50 13,
 o1 51 (.bin .neq (.t 50) (.c (.i .i64 0)))] [2,3,4,6,8,9,12,51])
 (.cond (.t 51)
 (.seq
 (.reg [o1 52 (.build [(.s []),(.s []),(.s []),(.s [])] []),
 ⟨none,.store 4 (.t 6) (.t 52),none⟩,
 o1 7 (.move (.c (.i .i64 50)))] [6,7])
 (.ret))
 (.skip)))
 (.seq
 (.seq
 (.reg [mv 53 9,
 o1 54 (.bin .eql (.t 53) (.c (.i .i64 0))),
 mv 55 54,
 ⟨(some 56),.load true 2 (.t 12),some (55,false)⟩,
 ⟨(some 57),.fieldAddr 0 (.t 8),some (55,false)⟩,
 ⟨(some 58),.load true 2 (.t 57),some (55,false)⟩,
 ⟨(some 59),.call false (.f 94) [(.t 56),(.t 58)],some (55,false)⟩,
 ⟨(some 60),.bin .lss (.t 59) (.c (.i .i64 0)),some (55,false)⟩,
 o1 61 (.pick (.t 55) (.c (.b true)) (.t 60))] [2,3,4,6,8,9,12,61])
 (.cond (.t 61)
 (.reg [o1 62 (.load true 2 (.t 12)),
 o1 63 (.fieldAddr 0 (.t 8)),
 ⟨none,.store 2 (.t 63) (.t 62),none⟩] [2,3,4,6,8,9,12])
 (.skip)))
 (.seq
 (.reg [mv 64 9,
 o1 65 (.bin .eql (.t 64) (.c (.i .i64 0))),
 mv 66 65,
 ⟨(some 67),.load true 2 (.t 12),some (66,false)⟩,
 ⟨(some 68),.fieldAddr 2 (.t 8),some (66,false)⟩,
 ⟨(some 69),.load true 2 (.t 68),some (66,false)⟩,
 ⟨(some 70),.call false (.f 94) [(.t 67),(.t 69)],some (66,false)⟩,
 ⟨(some 71),.bin .gtr (.t 70) (.c (.i .i64 0)),some (66,false)⟩,
 o1 72 (.pick (.t 66) (.c (.b true)) (.t 71))] [2,3,4,6,8,9,12,72])
 (.cond (.t 72)
 (.reg [o1 73 (.load true 2 (.t 12)),
 o1 74 (.fieldAddr 2 (.t 8)),
 ⟨none,.store 2 (.t 74) (.t 73),none⟩] [2,3,4,6,8,9])
 (.skip))))))))))
 (.reg [mv 17 9,
 o1 18 (.bin .add (.t 17) (.c (.i .i64 1))),
 mv 9 18] [2,3,4,6,8,9]))
def b134:C :=
 .seq
 (.reg [o1 3 (.box 29 (.t 0)),
 o1 4 (.box 29 (.t 1)),
 o1 6 (.alloc 29 [(.s []),(.s []),(.s []),(.s [])]),
 o1 7 (.move (.c (.i .i64 0)))] [2,3,4,6])
 (.seq
 (.reg [o1 14 (.build [(.s []),(.s []),(.s []),(.s [])] []),
 o1 8 (.alloc 29 [(.s []),(.s []),(.s []),(.s [])]),
 ⟨none,.store 4 (.t 8) (.t 14),none⟩] [2,3,4,6,8])
 (.seq
 (.seq
 (.reg [o1 9 (.move (.c (.i .i64 0)))] [2,3,4,6,8,9])
 (.block 0 (.loop l134_0)))
 (.seq
 (.reg [o1 75 (.load true 4 (.t 8)),
 ⟨none,.store 4 (.t 6) (.t 75),none⟩,
 o1 7 (.move (.c (.i .i64 0)))] [6,7])
 (.ret))))
def c134:SF:=⟨76,[.cell 6 true 4,.t 7],b134,none⟩
def h135:Hints:=⟨[(0,[0]),(1,[0])],[]⟩
def b135:C :=
 .seq
 (.reg [o1 0 (.alloc 26 [(.s []),(.s [])])] [0])
 (.seq
 (.reg [o1 1 (.build [(.s []),(.s [])] [(0,1,(.c (.s [48]))),(1,1,(.c (.s [49])))]),
 ⟨none,.store 2 (.t 0) (.t 1),none⟩] [0])
 (.ret))
def c135:SF:=⟨2,[.cell 0 true 2],b135,none⟩
def h136:Hints:=⟨[(0,[1,2,3]),(1,[2,3,8,9]),(2,[2,3,8,27]),(3,[6,7]),(4,[2,10,11,12]),(5,[2,10,11,12,37]),(6,[6,7]),(7,[2,10,12,42]),(8,[2,10,12]),(9,[2,10,12,13,14]),(10,[2,10,13,14,58]),(11,[6,7]),(12,[2,10,13,14,15,16]),(13,[13,14,16,70]),(14,[13,14,16]),(15,[6,7])],[]⟩
def b136:C :=
 .seq
 (.reg [o1 3 (.box 26 (.t 0)),
 o1 6 (.move (.c (.s []))),
 o1 7 (.move (.c (.b false)))] [1,2,3])
 (.seq
 (.draw [⟨0,o1 18 (.fieldAddr 0 (.t 3)),0,[]⟩,
 ⟨1,o1 19 (.load false 1 (.t 18)),0,[]⟩,
 ⟨2,mv 20 1,0,[]⟩,
 ⟨3,o1 21 (.bin .mul (.c (.i .i64 2)) (.t 20)),0,[]⟩,
 ⟨4,o1 22 (.call false (.f 137) [(.t 21)]),1,[1]⟩,
 ⟨5,o1 23 (.call false (.f 118) [(.t 19),(.t 22)]),1,[]⟩,
 ⟨6,mv 17 23,0,[]⟩,
 ⟨7,o1 24 (.ext (.t 17) 0),0,[]⟩,
 ⟨8,o1 25 (.ext (.t 17) 1),0,[]⟩,
 ⟨9,mv 8 24,0,[]⟩,
 ⟨10,mv 9 25,0,[]⟩] [2,3,8,9])
 (.seq
 (.seq
 (.reg [mv 26 9,
 o1 27 (.bin .neq (.t 26) (.c (.i .i64 0)))] [2,3,8,27])
 (.cond (.t 27)
 (.seq
 (.reg [o1 6 (.move (.c (.s []))),
 o1 7 (.move (.c (.b false)))] [6,7])
 (.ret))
 (.skip)))
 (.seq
 (.reg [mv 29 8,
 o1 30 (.fieldAddr 1 (.t 3)),
 o1 31 (.load false 1 (.t 30)),
 o1 32 (.call false (.f 98) [(.t 29),(.t 31)]),
 mv 28 32,
 o1 33 (.ext (.t 28) 0),
 o1 34 (.ext (.t 28) 1),
 o1 35 (.ext (.t 28) 2),
 mv 10 33,
 mv 11 34,
 mv 12 35] [2,10,11,12])
 (.seq
 (.seq
 (.reg [mv 36 12,
 o1 37 (.bin .neq (.t 36) (.c (.i .i64 0)))] [2,10,11,12,37])
 (.cond (.t 37)
 (.seq
 (.reg [o1 6 (.move (.c (.s []))),
 o1 7 (.move (.c (.b false)))] [6,7])
 (.ret))
 (.skip)))
 (.seq
 (.seq
 (.reg [mv 38 2,
 mv 39 38,
 ⟨(some 40),.move (.t 11),some (39,true)⟩,
 ⟨(some 41),.bin .neq (.t 40) (.c (.s [48])),some (39,true)⟩,
 o1 42 (.pick (.t 39) (.t 41) (.c (.b false)))] [2,10,12,42])
 (.cond (.t 42)
 (.reg [mv 44 10,
 o1 45 (.call false (.f 119) [(.t 44),(.c (.s [49]))]),
 mv 43 45,
 o1 46 (.ext (.t 43) 0),
 o1 47 (.ext (.t 43) 1),
 mv 10 46,
 mv 12 47] [2,10,12])
 (.skip)))
 (.seq
 (.reg [mv 49 10,
 o1 50 (.call false (.f 173) [(.t 49)]),
 mv 48 50,
 o1 51 (.ext (.t 48) 0),
 o1 52 (.ext (.t 48) 1),
 mv 13 51,
 mv 14 52] [2,10,12,13,14])
 (.seq
 (.seq
 (.reg [mv 53 12,
 o1 54 (.bin .neq (.t 53) (.c (.i .i64 0))),
 mv 55 54,
 ⟨(some 56),.move (.t 14),some (55,false)⟩,
 ⟨(some 57),.bin .neq (.t 56) (.c (.i .i64 0)),some (55,false)⟩,
 o1 58 (.pick (.t 55) (.c (.b true)) (.t 57))] [2,10,13,14,58])
 (.cond (.t 58)
 (.seq
 (.reg [o1 6 (.move (.c (.s []))),
 o1 7 (.move (.c (.b false)))] [6,7])
 (.ret))
 (.skip)))
 (.seq
 (.reg [mv 60 13,
 mv 61 13,
 o1 62 (.call false (.f 118) [(.t 60),(.t 61)]),
 mv 59 62,
 o1 63 (.ext (.t 59) 0),
 o1 64 (.ext (.t 59) 1),
 mv 15 63,
 mv 16 64] [2,10,13,14,15,16])
 (.seq
 (.seq
 (.reg [mv 65 2,
 mv 66 65,
 ⟨(some 67),.move (.t 15),some (66,true)⟩,
 ⟨(some 68),.move (.t 10),some (66,true)⟩,
 ⟨(some 69),.bin .neq (.t 67) (.t 68),some (66,true)⟩,
 o1 70 (.pick (.t 66) (.t 69) (.c (.b false)))] [13,14,16,70])
 (.cond (.t 70)
 (.reg [mv 72 13,
 o1 73 (.call false (.f 119) [(.t 72),(.c (.s [49]))]),
 mv 71 73,
 o1 74 (.ext (.t 71) 0),
 o1 75 (.ext (.t 71) 1),
 mv 13 74,
 mv 14 75] [13,14,16])
 (.skip)))
 (.seq
 (.reg [mv 76 13,
 mv 77 16,
 o1 78 (.bin .eql (.t 77) (.c (.i .i64 0))),
 mv 79 78,
 ⟨(some 80),.move (.t 14),some (79,true)⟩,
 ⟨(some 81),.bin .eql (.t 80) (.c (.i .i64 0)),some (79,true)⟩,
 o1 82 (.pick (.t 79) (.t 81) (.c (.b false))),
 mv 6 76,
 mv 7 82] [6,7])
 (.ret)))))))))))
def c136:SF:=⟨83,[.t 6,.t 7],b136,none⟩
def h137:Hints:=⟨[(0,[0]),(1,[0,3]),(2,[0,3,4]),(3,[0,3,4,7]),(5,[0,3,4]),(4,[0,3,4]),(6,[2])],[]⟩
def l137_0:C :=
 .seq
 (.seq
 (.reg [mv 5 4,
 mv 6 0,
 o1 7 (.bin .lss (.t 5) (.t 6))] [0,3,4,7])
 (.cond (.t 7)
 (.skip)
 (.exit 0)))
 (.seq
 (.block 1 (.reg [mv 10 3,
 o1 11 (.bin .add (.t 10) (.c (.s [48]))),
 mv 3 11] [0,3,4]))
 (.reg [mv 8 4,
 o1 9 (.bin .add (.t 8) (.c (.i .i64 1))),
 mv 4 9] [0,3,4]))
def b137:C :=
 .seq
 (.reg [o1 2 (.move (.c (.s [])))] [0])
 (.seq
 (.reg [o1 3 (.move (.c (.s [49])))] [0,3])
 (.seq
 (.seq
 (.reg [o1 4 (.move (.c (.i .i64 0)))] [0,3,4])
 (.block 0 (.loop l137_0)))
 (.seq
 (.reg [mv 12 3,
 mv 2 12] [2])
 (.ret))))
def c137:SF:=⟨13,[.t 2],b137,none⟩
def h138:Hints:=⟨[(0,[1,2,4]),(1,[4,6,8,9]),(2,[4,6,8,19]),(3,[4,5]),(4,[4,5])],[]⟩
def b138:C :=
 .seq
 (.reg [o1 2 (.box 26 (.t 0)),
 o1 4 (.alloc 26 [(.s []),(.s [])]),
 o1 5 (.move (.c (.i .i64 0)))] [1,2,4])
 (.seq
 (.reg [o1 11 (.load true 2 (.t 2)),
 mv 12 1,
 o1 13 (.call false (.f 174) [(.t 11),(.t 12)]),
 mv 10 13,
 o1 14 (.ext (.t 10) 0),
 o1 15 (.ext (.t 10) 1),
 o1 16 (.ext (.t 10) 2),
 o1 17 (.ext (.t 10) 3),
 mv 6 14,
 mv 7 15,
 mv 8 16,
 mv 9 17] [4,6,8,9])
 (.seq
 (.seq
 (.reg [mv 18 9,
 o1 19 (.un .not (.t 18))] [4,6,8,19])
 (.cond (.t 19)
 (.seq
 (.reg [o1 20 (.build [(.s []),(.s [])] []),
 ⟨none,.store 2 (.t 4) (.t 20),none⟩,
 o1 5 (.move (.c (.i .i64 40)))] [4,5])
 (.ret))
 (.skip)))
 (.seq
 (.reg [mv 21 6,
 mv 22 8,
 o1 23 (.call false (.f 45) [(.t 21),(.t 22)]),
 o1 24 (.ext (.t 23) 0),
 o1 25 (.ext (.t 23) 1),
 ⟨none,.store 2 (.t 4) (.t 24),none⟩,
 mv 5 25] [4,5])
 (.ret))))
def c138:SF:=⟨26,[.cell 4 true 2,.t 5],b138,none⟩
def h139:Hints:=⟨[(0,[1,2,4]),(1,[4,6,7,8,9]),(2,[4,6,7,8,21]),(3,[4,5]),(4,[4,6,8,24]),(5,[4,8,10,11]),(6,[4,8,10,31]),(7,[4,5]),(8,[4,6,8]),(9,[4,5])],[]⟩
def b139:C :=
 .seq
 (.reg [o1 2 (.box 26 (.t 0)),
 o1 4 (.alloc 26 [(.s []),(.s [])]),
 o1 5 (.move (.c (.i .i64 0)))] [1,2,4])
 (.seq
 (.reg [o1 13 (.load true 2 (.t 2)),
 mv 14 1,
 o1 15 (.call false (.f 174) [(.t 13),(.t 14)]),
 mv 12 15,
 o1 16 (.ext (.t 12) 0),
 o1 17 (.ext (.t 12) 1),
 o1 18 (.ext (.t 12) 2),
 o1 19 (.ext (.t 12) 3),
 mv 6 16,
 mv 7 17,
 mv 8 18,
 mv 9 19] [4,6,7,8,9])
 (.seq
 (.seq
 (.reg [mv 20 9,
 o1 21 (.un .not (.t 20))] [4,6,7,8,21])
 (.cond (.t 21)
 (.seq
 (.reg [o1 22 (.build [(.s []),(.s [])] []),
 ⟨none,.store 2 (.t 4) (.t 22),none⟩,
 o1 5 (.move (.c (.i .i64 40)))] [4,5])
 (.ret))
 (.skip)))
 (.seq
 (.seq
 (.reg [mv 23 7,
 o1 24 (.bin .neq (.t 23) (.c (.s [48])))] [4,6,8,24])
 (.cond (.t 24)
 (.seq
 (.reg [mv 26 6,
 o1 27 (.call false (.f 119) [(.t 26),(.c (.s [49]))]),
 mv 25 27,
 o1 28 (.ext (.t 25) 0),
 o1 29 (.ext (.t 25) 1),
 mv 10 28,
 mv 11 29] [4,8,10,11])
 (.seq
 (.seq
 (.reg [mv 30 11,
 o1 31 (.bin .neq (.t 30) (.c (.i .i64 0)))] [4,8,10,31])
 (.cond (.t 31)
 (.seq
 (.reg [o1 32 (.build [(.s []),(.s [])] []),
 ⟨none,.store 2 (.t 4) (.t 32),none⟩,
 o1 5 (.move (.c (.i .i64 40)))] [4,5])
 (.ret))
 (.skip)))
 (.reg [mv 33 10,
 mv 6 33] [4,6,8])))
 (.skip)))
 (.seq
 (.reg [mv 34 6,
 mv 35 8,
 o1 36 (.call false (.f 45) [(.t 34),(.t 35)]),
 o1 37 (.ext (.t 36) 0),
 o1 38 (.ext (.t 36) 1),
 ⟨none,.store 2 (.t 4) (.t 37),none⟩,
 mv 5 38] [4,5])
 (.ret)))))
def c139:SF:=⟨39,[.cell 4 true 2,.t 5],b139,none⟩
def h140:Hints:=⟨[(0,[0,1,2,3]),(1,[0,1,15]),(2,[0,1,4]),(3,[])],[]⟩
def d140:DF:=⟨17,6,[o1 7 (.asI [8,10,11,14,15,16,19,168,199,202,227] (.t 6)),
 mv 5 7,
 o1 8 (.ext (.t 5) 0),
 o1 9 (.ext (.t 5) 1),
 mv 2 8,
 mv 3 9],[0,1,2,3],
 .seq
 (.reg [mv 10 3,
 mv 11 10,
 ⟨(some 12),.move (.t 2),some (11,true)⟩,
 ⟨(some 13),.load false 1 (.g 0),some (11,true)⟩,
 ⟨(some 14),.call false (.f 109) [(.t 12),(.t 13)],some (11,true)⟩,
 o1 15 (.pick (.t 11) (.t 14) (.c (.b false)))] [0,1,15])
 (.cond (.t 15)
 (.seq
 (.reg [o1 4 (.alloc 26 [(.s []),(.s [])])] [0,1,4])
 (.reg [o1 16 (.load true 2 (.t 4)),
 ⟨none,.store 2 (.t 0) (.t 16),none⟩,
 ⟨none,.store 1 (.t 1) (.c (.i .i64 50)),none⟩] []))
 (.skip))⟩
def h141:Hints:=⟨[(0,[1]),(1,[2])],[]⟩
def b141:C :=
 .seq
 (.reg [o1 1 (.box 29 (.t 0)),
 o1 2 (.move (.c (.b false)))] [1])
 (.seq
 (.reg [o1 3 (.load true 4 (.t 1)),
 o1 4 (.call false (.f 35) [(.t 3)]),
 o1 5 (.un .not (.t 4)),
 mv 2 5] [2])
 (.ret))
def c141:SF:=⟨6,[.t 2],b141,none⟩
def h142:Hints:=⟨[(0,[0]),(1,[0,4]),(2,[2]),(3,[2])],[]⟩
def b142:C :=
 .seq
 (.reg [o1 2 (.move (.c (.s [])))] [0])
 (.seq
 (.seq
 (.reg [mv 3 0,
 o1 4 (.bin .eql (.t 3) (.c (.s [48])))] [0,4])
 (.cond (.t 4)
 (.seq
 (.reg [mv 5 0,
 mv 2 5] [2])
 (.ret))
 (.skip)))
 (.seq
 (.reg [o1 2 (.move (.c (.s [49])))] [2])
 (.ret)))
def c142:SF:=⟨6,[.t 2],b142,none⟩
def h143:Hints:=⟨[(0,[0,1]),(1,[0,1,5]),(2,[0,1,5,6]),(3,[0,1,5,6,7]),(4,[0,1,5,6,7,22]),(6,[0,1,5,7,8]),(7,[0,1,5,7,8,29]),(8,[0,1,5,7,8]),(9,[0,1,5,7,8,39]),(10,[0,1,5,7,8]),(11,[0,1,5,7,8]),(12,[0,1,5,6,7]),(5,[0,1,5,6,7]),(13,[4])],[(1,0)]⟩
def l143_0:C :=
 .seq
 (.seq
 (.reg [mv 9 7,
 mv 10 0,
 o1 11 (.len false (.t 10)),
 o1 12 (.bin .lss (.t 9) (.t 11)),
 mv 13 12,
 ⟨(some 14),.move (.t 7),some (13,false)⟩,
 ⟨(some 15),.move (.t 1),some (13,false)⟩,
 ⟨(some 16),.len false (.t 15),some (13,false)⟩,
 ⟨(some 17),.bin .lss (.t 14) (.t 16),some (13,false)⟩,
 o1 18 (.pick (.t 13) (.c (.b true)) (.t 17)),
 mv 19 18,
 ⟨(some 20),.move (.t 6),some (19,false)⟩,
 ⟨(some 21),.bin .gtr (.t 20) (.c (.i .i64 0)),some (19,false)⟩,
 o1 22 (.pick (.t 19) (.c (.b true)) (.t 21))] [0,1,5,6,7,22])
 (.cond (.t 22)
 (.skip)
 (.exit 0)))
 (.seq
 (.block 1 (.seq
 (.reg [mv 25 6,
 mv 8 25] [0,1,5,7,8])
 (.seq
 (.seq
 (.reg [mv 26 7,
 mv 27 0,
 o1 28 (.len false (.t 27)),
 o1 29 (.bin .lss (.t 26) (.t 28))] [0,1,5,7,8,29])
 (.cond (.t 29)
 (.reg [mv 30 8,
 mv 31 0,
 mv 32 7,
 o1 33 (.ixS 1 (.t 31) (.t 32)),
 o1 34 (.load false 1 (.t 33)),
 o1 35 (.bin .add (.t 30) (.t 34)),
 mv 8 35] [0,1,5,7,8])
 (.skip)))
 (.seq
 (.seq
 (.reg [mv 36 7,
 mv 37 1,
 o1 38 (.len false (.t 37)),
 o1 39 (.bin .lss (.t 36) (.t 38))] [0,1,5,7,8,39])
 (.cond (.t 39)
 (.reg [mv 40 8,
 mv 41 1,
 mv 42 7,
 o1 43 (.ixS 1 (.t 41) (.t 42)),
 o1 44 (.load false 1 (.t 43)),
 o1 45 (.bin .add (.t 40) (.t 44)),
 mv 8 45] [0,1,5,7,8])
 (.skip)))
 (.seq
 (.reg [mv 46 5,
 mv 47 8,
 o1 48 (.bin .rem (.t 47) (.c (.i .i64 10))),
 o1 49 (.bslice false 3 1 [(.i .i64 0)] 1 [(0,(.t 48))]),
 o1 50 (.app 3 1 8 (.t 46) (.t 49)),
 mv 5 50] [0,1,5,7,8])
 (.reg [mv 51 8,
 o1 52 (.bin .quo (.t 51) (.c (.i .i64 10))),
 mv 6 52] [0,1,5,6,7]))))))
 (.reg [mv 23 7,
 o1 24 (.bin .add (.t 23) (.c (.i .i64 1))),
 mv 7 24] [0,1,5,6,7]))
def b143:C :=
 .seq
 (.reg [o1 4 (.move (.c (.ls [])))] [0,1])
 (.seq
 (.reg [o1 5 (.newGr 3 1)] [0,1,5])
 (.seq
 (.reg [o1 6 (.move (.c (.i .i64 0)))] [0,1,5,6])
 (.seq
 (.seq
 (.reg [o1 7 (.move (.c (.i .i64 0)))] [0,1,5,6,7])
 (.block 0 (.loop l143_0)))
 (.seq
 (.reg [mv 53 5,
 mv 4 53] [4])
 (.ret)))))
def c143:SF:=⟨54,[.t 4],b143,none⟩
def h144:Hints:=⟨[(0,[0,1]),(1,[0,1,5]),(2,[0,1,5,6]),(3,[0,1,5,6,7]),(4,[0,1,5,6,7,12]),(6,[0,1,5,7,8]),(7,[0,1,5,7,8,24]),(8,[0,1,5,7,8]),(9,[0,1,5,6,7,8]),(10,[0,1,5,6,7,8,32]),(11,[0,1,5,7,8]),(12,[0,1,5,6,7,8]),(13,[0,1,5,6,7]),(5,[0,1,5,6,7]),(14,[4])],[(1,0),(14,0)]⟩
def l144_0:C :=
 .seq
 (.seq
 (.reg [mv 9 7,
 mv 10 0,
 o1 11 (.len false (.t 10)),
 o1 12 (.bin .lss (.t 9) (.t 11))] [0,1,5,6,7,12])
 (.cond (.t 12)
 (.skip)
 (.exit 0)))
 (.seq
 (.block 1 (.seq
 (.reg [mv 15 0,
 mv 16 7,
 o1 17 (.ixS 1 (.t 15) (.t 16)),
 o1 18 (.load false 1 (.t 17)),
 mv 19 6,
 o1 20 (.bin .sub (.t 18) (.t 19)),
 mv 8 20] [0,1,5,7,8])
 (.seq
 (.seq
 (.reg [mv 21 7,
 mv 22 1,
 o1 23 (.len false (.t 22)),
 o1 24 (.bin .lss (.t 21) (.t 23))] [0,1,5,7,8,24])
 (.cond (.t 24)
 (.reg [mv 25 8,
 mv 26 1,
 mv 27 7,
 o1 28 (.ixS 1 (.t 26) (.t 27)),
 o1 29 (.load false 1 (.t 28)),
 o1 30 (.bin .sub (.t 25) (.t 29)),
 mv 8 30] [0,1,5,7,8])
 (.skip)))
 (.seq
 (.reg [o1 6 (.move (.c (.i .i64 0)))] [0,1,5,6,7,8])
 (.seq
 (.seq
 (.reg [mv 31 8,
 o1 32 (.bin .lss (.t 31) (.c (.i .i64 0)))] [0,1,5,6,7,8,32])
 (.cond (.t 32)
 (.seq
 (.reg [mv 33 8,
 o1 34 (.bin .add (.t 33) (.c (.i .i64 10))),
 mv 8 34] [0,1,5,7,8])
 (.reg [o1 6 (.move (.c (.i .i64 1)))] [0,1,5,6,7,8]))
 (.skip)))
 (.reg [mv 35 5,
 mv 36 8,
 o1 37 (.bslice false 3 1 [(.i .i64 0)] 1 [(0,(.t 36))]),
 o1 38 (.app 3 1 8 (.t 35) (.t 37)),
 mv 5 38] [0,1,5,6,7]))))))
 (.reg [mv 13 7,
 o1 14 (.bin .add (.t 13) (.c (.i .i64 1))),
 mv 7 14] [0,1,5,6,7]))
def b144:C :=
 .seq
 (.reg [o1 4 (.move (.c (.ls [])))] [0,1])
 (.seq
 (.reg [o1 5 (.newGr 3 1)] [0,1,5])
 (.seq
 (.reg [o1 6 (.move (.c (.i .i64 0)))] [0,1,5,6])
 (.seq
 (.seq
 (.reg [o1 7 (.move (.c (.i .i64 0)))] [0,1,5,6,7])
 (.block 0 (.loop l144_0)))
 (.seq
 (.reg [o1 39 (.frzM (.t 5)),
 o1 40 (.call false (.f 171) [(.t 39)]),
 mv 4 40] [4])
 (.ret)))))
def c144:SF:=⟨41,[.t 4],b144,none⟩
def h145:Hints:=⟨[(0,[0,1]),(1,[0,1,10]),(2,[4,5]),(3,[0,1,6]),(4,[1,6,11]),(5,[1,6]),(6,[1,6,7]),(7,[1,6,7,19]),(9,[1,6,7]),(8,[1,6,7]),(10,[4,5])],[(3,0)]⟩
def l145_0:C :=
 .seq
 (.seq
 (.reg [mv 18 7,
 o1 19 (.bin .geq (.t 18) (.c (.i .i64 0)))] [1,6,7,19])
 (.cond (.t 19)
 (.skip)
 (.exit 0)))
 (.seq
 (.block 1 (.reg [mv 22 6,
 mv 23 1,
 mv 24 7,
 o1 25 (.ixS 1 (.t 23) (.t 24)),
 o1 26 (.load false 1 (.t 25)),
 o1 27 (.bin .add (.c (.i .i64 48)) (.t 26)),
 o1 28 (.conv .u8 (.t 27)),
 o1 29 (.bslice false 5 1 [(.i .u8 0)] 1 [(0,(.t 28))]),
 o1 30 (.app 5 1 1 (.t 22) (.t 29)),
 mv 6 30] [1,6,7]))
 (.reg [mv 20 7,
 o1 21 (.bin .sub (.t 20) (.c (.i .i64 1))),
 mv 7 21] [1,6,7]))
def b145:C :=
 .seq
 (.reg [o1 4 (.move (.c (.s []))),
 o1 5 (.move (.c (.b false)))] [0,1])
 (.seq
 (.seq
 (.reg [mv 8 1,
 o1 9 (.len false (.t 8)),
 o1 10 (.bin .eql (.t 9) (.c (.i .i64 0)))] [0,1,10])
 (.cond (.t 10)
 (.seq
 (.reg [o1 4 (.move (.c (.s [48]))),
 o1 5 (.move (.c (.b true)))] [4,5])
 (.ret))
 (.skip)))
 (.seq
 (.reg [o1 6 (.newGr 5 1)] [0,1,6])
 (.seq
 (.seq
 (.reg [mv 11 0] [1,6,11])
 (.cond (.t 11)
 (.reg [mv 12 6,
 o1 13 (.bslice false 5 1 [(.i .u8 0)] 1 [(0,(.c (.i .u8 45)))]),
 o1 14 (.app 5 1 1 (.t 12) (.t 13)),
 mv 6 14] [1,6])
 (.skip)))
 (.seq
 (.seq
 (.reg [mv 15 1,
 o1 16 (.len false (.t 15)),
 o1 17 (.bin .sub (.t 16) (.c (.i .i64 1))),
 mv 7 17] [1,6,7])
 (.block 0 (.loop l145_0)))
 (.seq
 (.reg [mv 31 6,
 o1 32 (.convBS (.t 31)),
 mv 33 1,
 o1 34 (.len false (.t 33)),
 o1 35 (.bin .leq (.t 34) (.c (.i .i64 200))),
 mv 4 32,
 mv 5 35] [4,5])
 (.ret))))))
def c145:SF:=⟨36,[.t 4,.t 5],b145,none⟩
def h146:Hints:=⟨[(0,[0]),(1,[0,3]),(2,[0,3,17]),(3,[2]),(4,[2])],[]⟩
def b146:C :=
 .seq
 (.reg [o1 2 (.move (.c (.b false)))] [0])
 (.seq
 (.reg [mv 4 0,
 o1 5 (.call false (.f 175) [(.t 4),(.c (.s [45]))]),
 mv 3 5] [0,3])
 (.seq
 (.seq
 (.reg [mv 6 3,
 o1 7 (.bin .eql (.t 6) (.c (.s []))),
 mv 8 7,
 ⟨(some 9),.move (.t 3),some (8,false)⟩,
 ⟨(some 10),.len true (.t 9),some (8,false)⟩,
 ⟨(some 11),.bin .gtr (.t 10) (.c (.i .i64 200)),some (8,false)⟩,
 o1 12 (.pick (.t 8) (.c (.b true)) (.t 11)),
 mv 13 12,
 ⟨(some 14),.move (.t 3),some (13,false)⟩,
 ⟨(some 15),.call false (.f 176) [(.t 14),(.c (.s [48,49,50,51,52,53,54,55,56,57]))],some (13,false)⟩,
 ⟨(some 16),.bin .neq (.t 15) (.c (.s [])),some (13,false)⟩,
 o1 17 (.pick (.t 13) (.c (.b true)) (.t 16))] [0,3,17])
 (.cond (.t 17)
 (.seq
 (.reg [o1 2 (.move (.c (.b false)))] [2])
 (.ret))
 (.skip)))
 (.seq
 (.reg [mv 18 0,
 o1 19 (.bin .eql (.t 18) (.c (.s [48]))),
 mv 20 19,
 ⟨(some 21),.move (.t 3),some (20,false)⟩,
 ⟨(some 22),.ixStr (.t 21) (.c (.i .i64 0)),some (20,false)⟩,
 ⟨(some 23),.bin .neq (.t 22) (.c (.i .u8 48)),some (20,false)⟩,
 o1 24 (.pick (.t 20) (.c (.b true)) (.t 23)),
 mv 2 24] [2])
 (.ret))))
def c146:SF:=⟨25,[.t 2],b146,none⟩
def h147:Hints:=⟨[(0,[0,2]),(1,[0,2,3]),(2,[2,3,4]),(3,[2,3,4,18]),(4,[2,3,4,5]),(5,[2,3,4,5,6]),(6,[2,3,4,5]),(7,[2,3,4]),(8,[2,4]),(9,[2])],[(2,5),(8,1)]⟩
def l147_0:C :=
 .seq
 (.seq
 (.reg [mv 16 3,
 o1 17 (.len true (.t 16)),
 o1 18 (.bin .gtr (.t 17) (.c (.i .i64 0)))] [2,3,4,18])
 (.cond (.t 18)
 (.skip)
 (.exit 0)))
 (.block 1 (.seq
 (.reg [mv 19 3,
 o1 20 (.len true (.t 19)),
 o1 21 (.bin .sub (.t 20) (.c (.i .i64 4))),
 o1 22 (.mm true [(.c (.i .i64 0)),(.t 21)]),
 mv 5 22] [2,3,4,5])
 (.seq
 (.reg [mv 24 3,
 mv 25 5,
 o1 26 (.slS (.t 24) (some (.t 25)) none),
 o1 27 (.call false (.f 177) [(.t 26)]),
 mv 23 27,
 o1 28 (.ext (.t 23) 0),
 o1 29 (.ext (.t 23) 1),
 mv 6 28,
 mv 7 29] [2,3,4,5,6])
 (.seq
 (.reg [o1 30 (.fieldAddr 1 (.t 4)),
 o1 31 (.load false 1 (.t 30)),
 mv 32 6,
 o1 33 (.bslice false 3 1 [(.i .i64 0)] 1 [(0,(.t 32))]),
 o1 34 (.app 3 1 8 (.t 31) (.t 33)),
 o1 35 (.fieldAddr 1 (.t 4)),
 ⟨none,.store 1 (.t 35) (.t 34),none⟩] [2,3,4,5])
 (.reg [mv 36 3,
 mv 37 5,
 o1 38 (.slS (.t 36) none (some (.t 37))),
 mv 3 38] [2,3,4])))))
def b147:C :=
 .seq
 (.reg [o1 2 (.alloc 103 [(.b false),(.ls [])])] [0,2])
 (.seq
 (.reg [mv 8 0,
 o1 9 (.call false (.f 175) [(.t 8),(.c (.s [45]))]),
 mv 3 9] [0,2,3])
 (.seq
 (.reg [mv 10 3,
 o1 11 (.len true (.t 10)),
 mv 12 0,
 o1 13 (.len true (.t 12)),
 o1 14 (.bin .lss (.t 11) (.t 13)),
 o1 15 (.buildG 3 1 1 [(.b false),(.ls [])] [(0,1,(.t 14))]),
 o1 4 (.alloc 103 [(.b false),(.ls [])]),
 ⟨none,.store 2 (.t 4) (.t 15),none⟩] [2,3,4])
 (.seq
 (.block 0 (.loop l147_0))
 (.seq
 (.reg [o1 39 (.fieldAddr 1 (.t 4)),
 o1 40 (.frzL false 1 (.t 39)),
 o1 41 (.call false (.f 149) [(.t 40)]),
 o1 42 (.fieldAddr 1 (.t 4)),
 ⟨none,.store 1 (.t 42) (.t 41),none⟩] [2,4])
 (.seq
 (.reg [o1 43 (.load true 2 (.t 4)),
 ⟨none,.store 2 (.t 2) (.t 43),none⟩] [2])
 (.ret))))))
def c147:SF:=⟨44,[.cell 2 true 2],b147,none⟩
def h148:Hints:=⟨[(0,[1]),(1,[2])],[]⟩
def b148:C :=
 .seq
 (.reg [o1 1 (.box 101 (.t 0)),
 o1 2 (.move (.c .nilf))] [1])
 (.seq
 (.reg [o1 3 (.mkF 178 [] [(.t 1)]),
 mv 2 3] [2])
 (.ret))
def c148:SF:=⟨4,[.t 2],b148,none⟩
def h149:Hints:=⟨[(0,[0]),(1,[0,14]),(2,[0]),(3,[2])],[]⟩
def l149_0:C :=
 .seq
 (.seq
 (.reg [mv 3 0,
 o1 4 (.len false (.t 3)),
 o1 5 (.bin .gtr (.t 4) (.c (.i .i64 0))),
 mv 6 5,
 ⟨(some 7),.move (.t 0),some (6,true)⟩,
 ⟨(some 8),.move (.t 0),some (6,true)⟩,
 ⟨(some 9),.len false (.t 8),some (6,true)⟩,
 ⟨(some 10),.bin .sub (.t 9) (.c (.i .i64 1)),some (6,true)⟩,
 ⟨(some 11),.ixS 1 (.t 7) (.t 10),some (6,true)⟩,
 ⟨(some 12),.load false 1 (.t 11),some (6,true)⟩,
 ⟨(some 13),.bin .eql (.t 12) (.c (.i .i64 0)),some (6,true)⟩,
 o1 14 (.pick (.t 6) (.t 13) (.c (.b false)))] [0,14])
 (.cond (.t 14)
 (.skip)
 (.exit 0)))
 (.block 1 (.reg [mv 15 0,
 mv 16 0,
 o1 17 (.len false (.t 16)),
 o1 18 (.bin .sub (.t 17) (.c (.i .i64 1))),
 o1 19 (.slL 1 (.t 15) none (some (.t 18))),
 mv 0 19] [0]))
def b149:C :=
 .seq
 (.reg [o1 2 (.move (.c (.ls [])))] [0])
 (.seq
 (.block 0 (.loop l149_0))
 (.seq
 (.reg [mv 20 0,
 mv 2 20] [2])
 (.ret)))
def c149:SF:=⟨21,[.t 2],b149,none⟩
def h150:Hints:=⟨[(0,[2,3]),(1,[4])],[]⟩
def b150:C :=
 .seq
 (.reg [o1 2 (.box 101 (.t 0)),
 o1 3 (.box 3 (.t 1)),
 o1 4 (.move (.c (.ls [])))] [2,3])
 (.seq
 (.reg [o1 5 (.load false 1 (.t 2)),
 o1 6 (.len false (.t 5)),
 o1 7 (.mkF 179 [] [(.t 2),(.t 3)]),
 o1 8 (.call false (.f 153) [(.t 6),(.c (.i .i64 0)),(.t 7)]),
 o1 9 (.call false (.f 149) [(.t 8)]),
 mv 4 9] [4])
 (.ret))
def c150:SF:=⟨10,[.t 4],b150,none⟩
def h151:Hints:=⟨[(0,[0,1,2]),(1,[4])],[]⟩
def b151:C :=
 .seq
 (.reg [o1 4 (.move (.c (.b false)))] [0,1,2])
 (.seq
 (.draw [⟨0,o1 5 (.load false 1 (.t 1)),0,[]⟩,
 ⟨1,mv 6 0,0,[]⟩,
 ⟨2,o1 7 (.bin .add (.t 6) (.c (.i .i64 1))),0,[]⟩,
 ⟨4,o1 9 (.load false 1 (.t 2)),0,[]⟩,
 ⟨3,o1 8 (.call false (.t 5) [(.t 7)]),1,[4]⟩,
 ⟨5,o1 10 (.call false (.f 107) [(.t 8),(.t 9)]),1,[]⟩,
 ⟨6,o1 11 (.bin .gtr (.t 10) (.c (.i .i64 0))),0,[]⟩,
 ⟨7,mv 4 11,0,[]⟩] [4])
 (.ret))
def c151:SF:=⟨12,[.t 4],b151,none⟩
def h152:Hints:=⟨[(0,[0,1]),(1,[1,5,6]),(2,[1,5,6,11]),(3,[1,5,6,7]),(4,[1,5,6,7,21]),(6,[1,5,6]),(5,[1,5,6]),(7,[4])],[]⟩
def l152_0:C :=
 .seq
 (.seq
 (.reg [mv 9 5,
 mv 10 6,
 o1 11 (.bin .lss (.t 9) (.t 10))] [1,5,6,11])
 (.cond (.t 11)
 (.skip)
 (.exit 0)))
 (.block 1 (.seq
 (.reg [mv 12 5,
 mv 13 6,
 o1 14 (.bin .add (.t 12) (.t 13)),
 o1 15 (.conv .u64 (.t 14)),
 o1 16 (.bin .shr (.t 15) (.c (.i .u64 1))),
 o1 17 (.conv .i64 (.t 16)),
 mv 7 17] [1,5,6,7])
 (.seq
 (.reg [mv 18 1,
 mv 19 7,
 o1 20 (.call false (.t 18) [(.t 19)]),
 o1 21 (.un .not (.t 20))] [1,5,6,7,21])
 (.cond (.t 21)
 (.reg [mv 22 7,
 o1 23 (.bin .add (.t 22) (.c (.i .i64 1))),
 mv 5 23] [1,5,6])
 (.reg [mv 24 7,
 mv 6 24] [1,5,6])))))
def b152:C :=
 .seq
 (.reg [o1 4 (.move (.c (.i .i64 0)))] [0,1])
 (.seq
 (.reg [mv 8 0,
 o1 5 (.move (.c (.i .i64 0))),
 mv 6 8] [1,5,6])
 (.seq
 (.block 0 (.loop l152_0))
 (.seq
 (.reg [mv 25 5,
 mv 4 25] [4])
 (.ret))))
def c152:SF:=⟨26,[.t 4],b152,none⟩
def h153:Hints:=⟨[(0,[0,1,2]),(1,[0,1,2,7]),(2,[0,1,2,7,8]),(3,[0,1,2,7,8,19]),(5,[0,2,7,8,9]),(6,[0,1,2,7,8,9]),(7,[0,1,2,7,8,9,28]),(10,[0,1,2,7,8,9,32]),(11,[0,1,2,7,8,9]),(12,[0,1,2,7,8,9]),(8,[0,2,7,8,9]),(9,[0,1,2,7,8,9]),(13,[0,1,2,7,8]),(4,[0,1,2,7,8]),(14,[6])],[]⟩
def l153_0:C :=
 .seq
 (.seq
 (.reg [mv 13 8,
 mv 14 0,
 o1 15 (.bin .lss (.t 13) (.t 14)),
 mv 16 15,
 ⟨(some 17),.move (.t 1),some (16,false)⟩,
 ⟨(some 18),.bin .neq (.t 17) (.c (.i .i64 0)),some (16,false)⟩,
 o1 19 (.pick (.t 16) (.c (.b true)) (.t 18))] [0,1,2,7,8,19])
 (.cond (.t 19)
 (.skip)
 (.exit 0)))
 (.seq
 (.block 1 (.seq
 (.reg [mv 22 2,
 mv 23 8,
 o1 24 (.call false (.t 22) [(.t 23)]),
 mv 25 1,
 o1 26 (.bin .add (.t 24) (.t 25)),
 mv 9 26] [0,2,7,8,9])
 (.seq
 (.reg [o1 1 (.move (.c (.i .i64 0)))] [0,1,2,7,8,9])
 (.seq
 (.seq
 (.reg [mv 27 9,
 o1 28 (.bin .lss (.t 27) (.c (.i .i64 0)))] [0,1,2,7,8,9,28])
 (.cond (.t 28)
 (.seq
 (.reg [mv 29 9,
 o1 30 (.bin .add (.t 29) (.c (.i .i64 10000))),
 mv 9 30] [0,2,7,8,9])
 (.reg [o1 1 (.move (.c (.i .i64 (-1))))] [0,1,2,7,8,9]))
 (.seq
 (.reg [mv 31 9,
 o1 32 (.bin .geq (.t 31) (.c (.i .i64 10000)))] [0,1,2,7,8,9,32])
 (.cond (.t 32)
 (.seq
 (.reg [mv 33 9,
 o1 34 (.bin .quo (.t 33) (.c (.i .i64 10000))),
 mv 1 34] [0,1,2,7,8,9])
 (.reg [mv 35 9,
 o1 36 (.bin .rem (.t 35) (.c (.i .i64 10000))),
 mv 9 36] [0,1,2,7,8,9]))
 (.skip)))))
 (.reg [mv 37 7,
 mv 38 9,
 o1 39 (.bslice false 3 1 [(.i .i64 0)] 1 [(0,(.t 38))]),
 o1 40 (.app 3 1 8 (.t 37) (.t 39)),
 mv 7 40] [0,1,2,7,8])))))
 (.reg [mv 20 8,
 o1 21 (.bin .add (.t 20) (.c (.i .i64 1))),
 mv 8 21] [0,1,2,7,8]))
def b153:C :=
 .seq
 (.reg [o1 6 (.move (.c (.ls [])))] [0,1,2])
 (.seq
 (.reg [mv 10 0,
 o1 11 (.bin .add (.t 10) (.c (.i .i64 1))),
 o1 12 (.mkSl 3 1 8 [(.i .i64 0)] (.c (.i .i64 0)) (.t 11)),
 mv 7 12] [0,1,2,7])
 (.seq
 (.seq
 (.reg [o1 8 (.move (.c (.i .i64 0)))] [0,1,2,7,8])
 (.block 0 (.loop l153_0)))
 (.seq
 (.reg [mv 41 7,
 mv 6 41] [6])
 (.ret))))
def c153:SF:=⟨42,[.t 6],b153,none⟩
def h154:Hints:=⟨[(0,[0,1,2]),(1,[4])],[]⟩
def b154:C :=
 .seq
 (.reg [o1 4 (.move (.c (.i .i64 0)))] [0,1,2])
 (.seq
 (.draw [⟨0,o1 5 (.load false 1 (.t 1)),0,[]⟩,
 ⟨1,mv 6 0,0,[]⟩,
 ⟨3,o1 8 (.load false 1 (.t 2)),0,[]⟩,
 ⟨4,mv 9 0,0,[]⟩,
 ⟨2,o1 7 (.call false (.f 155) [(.t 5),(.t 6)]),1,[3]⟩,
 ⟨5,o1 10 (.call false (.f 155) [(.t 8),(.t 9)]),1,[]⟩,
 ⟨6,o1 11 (.bin .add (.t 7) (.t 10)),0,[]⟩,
 ⟨7,mv 4 11,0,[]⟩] [4])
 (.ret))
def c154:SF:=⟨12,[.t 4],b154,none⟩
def h155:Hints:=⟨[(0,[0,1]),(1,[0,1,8]),(2,[4]),(3,[4])],[]⟩
def b155:C :=
 .seq
 (.reg [o1 4 (.move (.c (.i .i64 0)))] [0,1])
 (.seq
 (.seq
 (.reg [mv 5 1,
 mv 6 0,
 o1 7 (.len false (.t 6)),
 o1 8 (.bin .lss (.t 5) (.t 7))] [0,1,8])
 (.cond (.t 8)
 (.seq
 (.reg [mv 9 0,
 mv 10 1,
 o1 11 (.ixS 1 (.t 9) (.t 10)),
 o1 12 (.load false 1 (.t 11)),
 mv 4 12] [4])
 (.ret))
 (.skip)))
 (.seq
 (.reg [o1 4 (.move (.c (.i .i64 0)))] [4])
 (.ret)))
def c155:SF:=⟨13,[.t 4],b155,none⟩
def h156:Hints:=⟨[(0,[0,1,2]),(1,[4])],[]⟩
def b156:C :=
 .seq
 (.reg [o1 4 (.move (.c (.i .i64 0)))] [0,1,2])
 (.seq
 (.draw [⟨0,o1 5 (.load false 1 (.t 1)),0,[]⟩,
 ⟨1,mv 6 0,0,[]⟩,
 ⟨3,o1 8 (.load false 1 (.t 2)),0,[]⟩,
 ⟨4,mv 9 0,0,[]⟩,
 ⟨2,o1 7 (.call false (.f 155) [(.t 5),(.t 6)]),1,[3]⟩,
 ⟨5,o1 10 (.call false (.f 155) [(.t 8),(.t 9)]),1,[]⟩,
 ⟨6,o1 11 (.bin .sub (.t 7) (.t 10)),0,[]⟩,
 ⟨7,mv 4 11,0,[]⟩] [4])
 (.ret))
def c156:SF:=⟨12,[.t 4],b156,none⟩
def h158:Hints:=⟨[(0,[0,1]),(1,[0,1]),(2,[1]),(3,[4,5])],[]⟩
def b158:C :=
 .seq
 (.reg [o1 4 (.move (.c (.i .i64 0))),
 o1 5 (.move (.c .nili))] [0,1])
 (.seq
 (.reg [mv 6 0,
 o1 7 (.call false (.f 181) [(.t 6)])] [0,1])
 (.seq
 (.reg [mv 8 0,
 mv 9 0,
 o1 10 (.nilCheck (.t 9)),
 o1 11 (.fieldAddr 1 (.t 10)),
 o1 12 (.load false 1 (.t 11)),
 mv 13 1,
 o1 14 (.app 5 1 1 (.t 12) (.t 13)),
 o1 15 (.nilCheck (.t 8)),
 o1 16 (.fieldAddr 1 (.t 15)),
 ⟨none,.store 1 (.t 16) (.t 14),none⟩] [1])
 (.seq
 (.reg [mv 17 1,
 o1 18 (.len true (.t 17)),
 mv 4 18,
 o1 5 (.move (.c .nili))] [4,5])
 (.ret))))
def c158:SF:=⟨19,[.t 4,.t 5],b158,none⟩
def h160:Hints:=⟨[(0,[0,1]),(1,[0,1,5]),(2,[0,1,5,6]),(3,[0,1,6,11]),(4,[12]),(5,[4]),(6,[4]),(7,[0,1,13]),(8,[4]),(9,[0,1,16]),(10,[4]),(11,[19]),(12,[4]),(13,[4])],[]⟩
def b160:C :=
 .seq
 (.reg [o1 4 (.move (.c (.i .i64 0)))] [0,1])
 (.seq
 (.reg [mv 7 0,
 o1 8 (.call false (.f 182) [(.t 7)]),
 mv 5 8] [0,1,5])
 (.seq
 (.reg [mv 9 1,
 o1 10 (.call false (.f 182) [(.t 9)]),
 mv 6 10] [0,1,5,6])
 (.seq
 (.seq
 (.reg [mv 11 5] [0,1,6,11])
 (.cond (.t 11)
 (.seq
 (.seq
 (.reg [mv 12 6] [12])
 (.cond (.t 12)
 (.seq
 (.reg [o1 4 (.move (.c (.i .i64 0)))] [4])
 (.ret))
 (.skip)))
 (.seq
 (.reg [o1 4 (.move (.c (.i .i64 (-1))))] [4])
 (.ret)))
 (.skip)))
 (.seq
 (.seq
 (.reg [mv 13 6] [0,1,13])
 (.cond (.t 13)
 (.seq
 (.reg [o1 4 (.move (.c (.i .i64 1)))] [4])
 (.ret))
 (.skip)))
 (.seq
 (.seq
 (.reg [mv 14 0,
 mv 15 1,
 o1 16 (.bin .lss (.t 14) (.t 15))] [0,1,16])
 (.cond (.t 16)
 (.seq
 (.reg [o1 4 (.move (.c (.i .i64 (-1))))] [4])
 (.ret))
 (.skip)))
 (.seq
 (.seq
 (.reg [mv 17 0,
 mv 18 1,
 o1 19 (.bin .gtr (.t 17) (.t 18))] [19])
 (.cond (.t 19)
 (.seq
 (.reg [o1 4 (.move (.c (.i .i64 1)))] [4])
 (.ret))
 (.skip)))
 (.seq
 (.reg [o1 4 (.move (.c (.i .i64 0)))] [4])
 (.ret))))))))
def c160:SF:=⟨20,[.t 4],b160,none⟩
def h163:Hints:=⟨[(0,[0,1]),(1,[0,1,7,8]),(2,[0,1,7,8,9]),(3,[0,1,5,7,8]),(4,[0,1,5,7,8,16]),(5,[4]),(6,[0,1,7,8]),(7,[4])],[]⟩
def l163_0:C :=
 .seq
 (.reg [o1 9 (.bin .lss (.t 8) (.t 7))] [0,1,7,8,9])
 (.seq
 (.cond (.t 9)
 (.skip)
 (.exit 0))
 (.seq
 (.block 1 (.seq
 (.reg [mv 10 8,
 mv 5 10] [0,1,5,7,8])
 (.seq
 (.reg [mv 11 1,
 mv 12 0,
 mv 13 5,
 o1 14 (.ixS 4 (.t 12) (.t 13)),
 o1 15 (.load true 4 (.t 14)),
 o1 16 (.call false (.t 11) [(.t 15)])] [0,1,5,7,8,16])
 (.cond (.t 16)
 (.seq
 (.reg [mv 17 5,
 mv 4 17] [4])
 (.ret))
 (.skip)))))
 (.reg [o1 18 (.bin .add (.t 8) (.c (.i .i64 1))),
 mv 8 18] [0,1,7,8])))
def b163:C :=
 .seq
 (.reg [o1 4 (.move (.c (.i .i64 0)))] [0,1])
 (.seq
 (.seq
 (.reg [mv 6 0,
 o1 7 (.len false (.t 6)),
 o1 8 (.move (.c (.i .i64 0)))] [0,1,7,8])
 (.block 0 (.loop l163_0)))
 (.seq
 (.reg [o1 4 (.move (.c (.i .i64 (-1))))] [4])
 (.ret)))
def c163:SF:=⟨19,[.t 4],b163,none⟩
def h164:Hints:=⟨[(0,[1,2]),(1,[1,2,5]),(2,[2,5,9]),(3,[2,5,7]),(4,[2,5,7,14]),(5,[2,5,7]),(6,[]),(7,[4])],[(5,0),(5,2)]⟩
def l164_0:C :=
 .reg [mv 7 11] [2,5,7]
def l164_1:C :=
 .block 1 (.seq
 (.seq
 (.reg [o1 12 (.load false 1 (.t 5)),
 o1 13 (.len false (.t 12)),
 o1 14 (.bin .gtr (.t 13) (.c (.i .i64 0)))] [2,5,7,14])
 (.cond (.t 14)
 (.reg [o1 15 (.bslice true 3 1 [(.i .i64 0)] 1 [(0,(.c (.i .i64 0)))]),
 o1 16 (.load false 1 (.t 5)),
 o1 17 (.appF 3 1 8 (.t 15) (.t 16)),
 ⟨none,.store 1 (.t 5) (.t 17),none⟩] [2,5,7])
 (.skip)))
 (.draw [⟨0,o1 18 (.load false 1 (.t 5)),0,[]⟩,
 ⟨1,o1 19 (.load false 1 (.t 2)),0,[]⟩,
 ⟨2,mv 20 7,0,[]⟩,
 ⟨3,o1 21 (.call false (.f 150) [(.t 19),(.t 20)]),1,[0]⟩,
 ⟨4,o1 22 (.call false (.f 103) [(.t 18),(.t 21)]),1,[]⟩,
 ⟨5,⟨none,.store 1 (.t 5) (.t 22),none⟩,1,[]⟩] []))
def b164:C :=
 .seq
 (.reg [o1 2 (.box 101 (.t 0)),
 o1 4 (.move (.c (.ls [])))] [1,2])
 (.seq
 (.reg [o1 5 (.alloc 101 [(.ls [])])] [1,2,5])
 (.seq
 (.seq
 (.reg [mv 8 1,
 o1 9 (.call false (.f 148) [(.t 8)])] [2,5,9])
 (.block 0 (.range (.t 9) [10,11] l164_0 l164_1)))
 (.seq
 (.reg [o1 23 (.load false 1 (.t 5)),
 mv 4 23] [4])
 (.ret))))
def c164:SF:=⟨24,[.t 4],b164,none⟩
def h165:Hints:=⟨[(0,[0,1]),(1,[6,8]),(2,[4,5])],[]⟩
def b165:C :=
 .seq
 (.reg [o1 4 (.move (.c (.s []))),
 o1 5 (.move (.c (.i .i64 0)))] [0,1])
 (.seq
 (.reg [mv 10 0,
 mv 11 1,
 o1 12 (.call false (.f 47) [(.t 10),(.t 11)]),
 mv 9 12,
 o1 13 (.ext (.t 9) 0),
 o1 14 (.ext (.t 9) 1),
 o1 15 (.ext (.t 9) 2),
 mv 6 13,
 mv 7 14,
 mv 8 15] [6,8])
 (.seq
 (.reg [mv 16 6,
 mv 17 8,
 mv 4 16,
 mv 5 17] [4,5])
 (.ret)))
def c165:SF:=⟨18,[.t 4,.t 5],b165,none⟩
def h166:Hints:=⟨[(0,[0,1]),(1,[0,1,5]),(2,[0,1,5,6]),(3,[0,1,5,6,19]),(5,[0,1,5,6,7]),(6,[0,1,5,6,7,8]),(7,[0,1,5,6,7,8,29]),(9,[0,1,5,6,8,9]),(10,[0,1,5,6,8,9,43]),(11,[0,1,5,6,8,9]),(12,[0,1,5,6,8,9]),(13,[0,1,5,6,7,8]),(8,[0,1,5,6,7,8]),(4,[0,1,5,6]),(14,[4])],[(14,0)]⟩
def l166_0:C :=
 .seq
 (.seq
 (.reg [mv 22 8,
 mv 23 1,
 o1 24 (.len false (.t 23)),
 o1 25 (.bin .lss (.t 22) (.t 24)),
 mv 26 25,
 ⟨(some 27),.move (.t 7),some (26,false)⟩,
 ⟨(some 28),.bin .gtr (.t 27) (.c (.i .i64 0)),some (26,false)⟩,
 o1 29 (.pick (.t 26) (.c (.b true)) (.t 28))] [0,1,5,6,7,8,29])
 (.cond (.t 29)
 (.skip)
 (.exit 2)))
 (.seq
 (.block 3 (.seq
 (.reg [mv 32 5,
 mv 33 6,
 mv 34 8,
 o1 35 (.bin .add (.t 33) (.t 34)),
 o1 36 (.ixS 1 (.t 32) (.t 35)),
 o1 37 (.load false 1 (.t 36)),
 mv 38 7,
 o1 39 (.bin .add (.t 37) (.t 38)),
 mv 9 39] [0,1,5,6,8,9])
 (.seq
 (.seq
 (.reg [mv 40 8,
 mv 41 1,
 o1 42 (.len false (.t 41)),
 o1 43 (.bin .lss (.t 40) (.t 42))] [0,1,5,6,8,9,43])
 (.cond (.t 43)
 (.draw [⟨0,mv 44 9,0,[]⟩,
 ⟨1,mv 45 0,0,[]⟩,
 ⟨2,mv 46 6,0,[]⟩,
 ⟨3,o1 47 (.ixS 1 (.t 45) (.t 46)),0,[]⟩,
 ⟨4,o1 48 (.load false 1 (.t 47)),0,[]⟩,
 ⟨5,mv 49 1,0,[]⟩,
 ⟨6,mv 50 8,0,[]⟩,
 ⟨7,o1 51 (.ixS 1 (.t 49) (.t 50)),0,[]⟩,
 ⟨8,o1 52 (.load false 1 (.t 51)),0,[]⟩,
 ⟨9,o1 53 (.bin .mul (.t 48) (.t 52)),0,[]⟩,
 ⟨10,o1 54 (.bin .add (.t 44) (.t 53)),0,[]⟩,
 ⟨11,mv 9 54,0,[]⟩] [0,1,5,6,8,9])
 (.skip)))
 (.seq
 (.reg [mv 55 5,
 mv 56 6,
 mv 57 8,
 o1 58 (.bin .add (.t 56) (.t 57)),
 mv 59 9,
 o1 60 (.bin .rem (.t 59) (.c (.i .i64 10))),
 o1 61 (.ixS 1 (.t 55) (.t 58)),
 ⟨none,.store 1 (.t 61) (.t 60),none⟩] [0,1,5,6,8,9])
 (.reg [mv 62 9,
 o1 63 (.bin .quo (.t 62) (.c (.i .i64 10))),
 mv 7 63] [0,1,5,6,7,8])))))
 (.reg [mv 30 8,
 o1 31 (.bin .add (.t 30) (.c (.i .i64 1))),
 mv 8 31] [0,1,5,6,7,8]))
def l166_1:C :=
 .seq
 (.seq
 (.reg [mv 16 6,
 mv 17 0,
 o1 18 (.len false (.t 17)),
 o1 19 (.bin .lss (.t 16) (.t 18))] [0,1,5,6,19])
 (.cond (.t 19)
 (.skip)
 (.exit 0)))
 (.seq
 (.block 1 (.seq
 (.reg [o1 7 (.move (.c (.i .i64 0)))] [0,1,5,6,7])
 (.seq
 (.reg [o1 8 (.move (.c (.i .i64 0)))] [0,1,5,6,7,8])
 (.block 2 (.loop l166_0)))))
 (.reg [mv 20 6,
 o1 21 (.bin .add (.t 20) (.c (.i .i64 1))),
 mv 6 21] [0,1,5,6]))
def b166:C :=
 .seq
 (.reg [o1 4 (.move (.c (.ls [])))] [0,1])
 (.seq
 (.reg [mv 10 0,
 o1 11 (.len false (.t 10)),
 mv 12 1,
 o1 13 (.len false (.t 12)),
 o1 14 (.bin .add (.t 11) (.t 13)),
 o1 15 (.mkSl 3 1 8 [(.i .i64 0)] (.t 14) (.t 14)),
 mv 5 15] [0,1,5])
 (.seq
 (.seq
 (.reg [o1 6 (.move (.c (.i .i64 0)))] [0,1,5,6])
 (.block 0 (.loop l166_1)))
 (.seq
 (.reg [o1 64 (.frzM (.t 5)),
 o1 65 (.call false (.f 171) [(.t 64)]),
 mv 4 65] [4])
 (.ret))))
def c166:SF:=⟨66,[.t 4],b166,none⟩
def h171:Hints:=⟨[(0,[0]),(1,[0,14]),(2,[0]),(3,[2])],[]⟩
def l171_0:C :=
 .seq
 (.seq
 (.reg [mv 3 0,
 o1 4 (.len false (.t 3)),
 o1 5 (.bin .gtr (.t 4) (.c (.i .i64 0))),
 mv 6 5,
 ⟨(some 7),.move (.t 0),some (6,true)⟩,
 ⟨(some 8),.move (.t 0),some (6,true)⟩,
 ⟨(some 9),.len false (.t 8),some (6,true)⟩,
 ⟨(some 10),.bin .sub (.t 9) (.c (.i .i64 1)),some (6,true)⟩,
 ⟨(some 11),.ixS 1 (.t 7) (.t 10),some (6,true)⟩,
 ⟨(some 12),.load false 1 (.t 11),some (6,true)⟩,
 ⟨(some 13),.bin .eql (.t 12) (.c (.i .i64 0)),some (6,true)⟩,
 o1 14 (.pick (.t 6) (.t 13) (.c (.b false)))] [0,14])
 (.cond (.t 14)
 (.skip)
 (.exit 0)))
 (.block 1 (.reg [mv 15 0,
 mv 16 0,
 o1 17 (.len false (.t 16)),
 o1 18 (.bin .sub (.t 17) (.c (.i .i64 1))),
 o1 19 (.slL 1 (.t 15) none (some (.t 18))),
 mv 0 19] [0]))
def b171:C :=
 .seq
 (.reg [o1 2 (.move (.c (.ls [])))] [0])
 (.seq
 (.block 0 (.loop l171_0))
 (.seq
 (.reg [mv 20 0,
 mv 2 20] [2])
 (.ret)))
def c171:SF:=⟨21,[.t 2],b171,none⟩
def h172:Hints:=⟨[(0,[2,3,4]),(1,[2,3,4,6]),(2,[2,3,4,6,7]),(3,[2,3,4,21]),(4,[4,5]),(5,[2,3,4,8,9]),(6,[4,8,9,10,11]),(7,[4,8,10,44]),(8,[4,5]),(9,[4,5])],[]⟩
def b172:C :=
 .seq
 (.reg [o1 2 (.box 26 (.t 0)),
 o1 3 (.box 26 (.t 1)),
 o1 4 (.alloc 26 [(.s []),(.s [])]),
 o1 5 (.move (.c (.i .i64 0)))] [2,3,4])
 (.seq
 (.reg [o1 12 (.load true 2 (.t 2)),
 o1 13 (.call false (.f 30) [(.t 12)]),
 mv 6 13] [2,3,4,6])
 (.seq
 (.reg [o1 14 (.load true 2 (.t 3)),
 o1 15 (.call false (.f 30) [(.t 14)]),
 mv 7 15] [2,3,4,6,7])
 (.seq
 (.seq
 (.reg [mv 16 6,
 o1 17 (.un .not (.t 16)),
 mv 18 17,
 ⟨(some 19),.move (.t 7),some (18,false)⟩,
 ⟨(some 20),.un .not (.t 19),some (18,false)⟩,
 o1 21 (.pick (.t 18) (.c (.b true)) (.t 20))] [2,3,4,21])
 (.cond (.t 21)
 (.seq
 (.reg [o1 22 (.build [(.s []),(.s [])] []),
 ⟨none,.store 2 (.t 4) (.t 22),none⟩,
 o1 5 (.move (.c (.i .i64 40)))] [4,5])
 (.ret))
 (.skip)))
 (.seq
 (.reg [o1 24 (.fieldAddr 0 (.t 2)),
 o1 25 (.load false 1 (.t 24)),
 o1 26 (.fieldAddr 1 (.t 3)),
 o1 27 (.load false 1 (.t 26)),
 o1 28 (.call false (.f 118) [(.t 25),(.t 27)]),
 mv 23 28,
 o1 29 (.ext (.t 23) 0),
 o1 30 (.ext (.t 23) 1),
 mv 8 29,
 mv 9 30] [2,3,4,8,9])
 (.seq
 (.reg [o1 32 (.fieldAddr 1 (.t 2)),
 o1 33 (.load false 1 (.t 32)),
 o1 34 (.fieldAddr 0 (.t 3)),
 o1 35 (.load false 1 (.t 34)),
 o1 36 (.call false (.f 118) [(.t 33),(.t 35)]),
 mv 31 36,
 o1 37 (.ext (.t 31) 0),
 o1 38 (.ext (.t 31) 1),
 mv 10 37,
 mv 11 38] [4,8,9,10,11])
 (.seq
 (.seq
 (.reg [mv 39 9,
 o1 40 (.bin .neq (.t 39) (.c (.i .i64 0))),
 mv 41 40,
 ⟨(some 42),.move (.t 11),some (41,false)⟩,
 ⟨(some 43),.bin .neq (.t 42) (.c (.i .i64 0)),some (41,false)⟩,
 o1 44 (.pick (.t 41) (.c (.b true)) (.t 43))] [4,8,10,44])
 (.cond (.t 44)
 (.seq
 (.reg [o1 45 (.build [(.s []),(.s [])] []),
 ⟨none,.store 2 (.t 4) (.t 45),none⟩,
 o1 5 (.move (.c (.i .i64 40)))] [4,5])
 (.ret))
 (.skip)))
 (.seq
 (.reg [mv 46 8,
 mv 47 10,
 o1 48 (.call false (.f 45) [(.t 46),(.t 47)]),
 o1 49 (.ext (.t 48) 0),
 o1 50 (.ext (.t 48) 1),
 ⟨none,.store 2 (.t 4) (.t 49),none⟩,
 mv 5 50] [4,5])
 (.ret))))))))
def c172:SF:=⟨51,[.cell 4 true 2,.t 5],b172,none⟩
def h173:Hints:=⟨[(0,[0]),(1,[0,15]),(2,[2,3]),(3,[5]),(4,[5,6]),(5,[5,6,7]),(6,[5,6,7,30]),(8,[5,6,7]),(9,[5,6,7,50]),(10,[5,6,7]),(7,[5,6,7]),(11,[2,3])],[(11,0)]⟩
def l173_0:C :=
 .seq
 (.seq
 (.reg [mv 36 6,
 mv 37 7,
 o1 38 (.ixS 1 (.t 36) (.t 37)),
 o1 39 (.load false 1 (.t 38)),
 o1 40 (.bin .gtr (.t 39) (.c (.i .i64 0))),
 mv 41 40,
 ⟨(some 42),.move (.t 6),some (41,true)⟩,
 ⟨(some 43),.call false (.f 187) [(.t 42)],some (41,true)⟩,
 ⟨(some 44),.move (.t 6),some (41,true)⟩,
 ⟨(some 45),.call false (.f 187) [(.t 44)],some (41,true)⟩,
 ⟨(some 46),.call false (.f 166) [(.t 43),(.t 45)],some (41,true)⟩,
 ⟨(some 47),.move (.t 5),some (41,true)⟩,
 ⟨(some 48),.call false (.f 126) [(.t 46),(.t 47)],some (41,true)⟩,
 ⟨(some 49),.bin .gtr (.t 48) (.c (.i .i64 0)),some (41,true)⟩,
 o1 50 (.pick (.t 41) (.t 49) (.c (.b false)))] [5,6,7,50])
 (.cond (.t 50)
 (.skip)
 (.exit 2)))
 (.block 3 (.reg [mv 51 6,
 mv 52 7,
 o1 53 (.ixS 1 (.t 51) (.t 52)),
 o1 54 (.load false 1 (.t 53)),
 o1 55 (.bin .sub (.t 54) (.c (.i .i64 1))),
 o1 56 (.ixS 1 (.t 51) (.t 52)),
 ⟨none,.store 1 (.t 56) (.t 55),none⟩] [5,6,7]))
def l173_1:C :=
 .seq
 (.seq
 (.reg [mv 29 7,
 o1 30 (.bin .geq (.t 29) (.c (.i .i64 0)))] [5,6,7,30])
 (.cond (.t 30)
 (.skip)
 (.exit 0)))
 (.seq
 (.block 1 (.seq
 (.reg [mv 33 6,
 mv 34 7,
 o1 35 (.ixS 1 (.t 33) (.t 34)),
 ⟨none,.store 1 (.t 35) (.c (.i .i64 9)),none⟩] [5,6,7])
 (.block 2 (.loop l173_0))))
 (.reg [mv 31 7,
 o1 32 (.bin .sub (.t 31) (.c (.i .i64 1))),
 mv 7 32] [5,6,7]))
def b173:C :=
 .seq
 (.reg [o1 2 (.move (.c (.s []))),
 o1 3 (.move (.c (.i .i64 0)))] [0])
 (.seq
 (.seq
 (.reg [mv 8 0,
 o1 9 (.call false (.f 79) [(.t 8)]),
 o1 10 (.un .not (.t 9)),
 mv 11 10,
 ⟨(some 12),.move (.t 0),some (11,false)⟩,
 ⟨(some 13),.ixStr (.t 12) (.c (.i .i64 0)),some (11,false)⟩,
 ⟨(some 14),.bin .eql (.t 13) (.c (.i .u8 45)),some (11,false)⟩,
 o1 15 (.pick (.t 11) (.c (.b true)) (.t 14))] [0,15])
 (.cond (.t 15)
 (.seq
 (.reg [o1 2 (.move (.c (.s []))),
 o1 3 (.move (.c (.i .i64 30)))] [2,3])
 (.ret))
 (.skip)))
 (.seq
 (.reg [mv 17 0,
 o1 18 (.call false (.f 124) [(.t 17)]),
 mv 16 18,
 o1 19 (.ext (.t 16) 0),
 o1 20 (.ext (.t 16) 1),
 mv 4 19,
 mv 5 20] [5])
 (.seq
 (.reg [mv 21 5,
 o1 22 (.len false (.t 21)),
 o1 23 (.bin .add (.t 22) (.c (.i .i64 1))),
 o1 24 (.bin .quo (.t 23) (.c (.i .i64 2))),
 o1 25 (.mkSl 3 1 8 [(.i .i64 0)] (.t 24) (.t 24)),
 mv 6 25] [5,6])
 (.seq
 (.seq
 (.reg [mv 26 6,
 o1 27 (.len false (.t 26)),
 o1 28 (.bin .sub (.t 27) (.c (.i .i64 1))),
 mv 7 28] [5,6,7])
 (.block 0 (.loop l173_1)))
 (.seq
 (.reg [o1 57 (.frzM (.t 6)),
 o1 58 (.call false (.f 171) [(.t 57)]),
 o1 59 (.call false (.f 128) [(.c (.b false)),(.t 58)]),
 o1 60 (.ext (.t 59) 0),
 o1 61 (.ext (.t 59) 1),
 mv 2 60,
 mv 3 61] [2,3])
 (.ret))))))
def c173:SF:=⟨62,[.t 2,.t 3],b173,none⟩
def h174:Hints:=⟨[(0,[1,2]),(1,[1,2,8]),(2,[1,2,26]),(3,[4,5,6,7]),(4,[2,9]),(5,[2,9,10,11]),(6,[2,9,10,37]),(7,[4,5,6,7]),(8,[9,12,13,14]),(9,[4,5,6,7])],[]⟩
def b174:C :=
 .seq
 (.reg [o1 2 (.box 26 (.t 0)),
 o1 4 (.move (.c (.s []))),
 o1 5 (.move (.c (.s []))),
 o1 6 (.move (.c (.s []))),
 o1 7 (.move (.c (.b false)))] [1,2])
 (.seq
 (.reg [o1 15 (.load true 2 (.t 2)),
 o1 16 (.call false (.f 30) [(.t 15)]),
 mv 8 16] [1,2,8])
 (.seq
 (.seq
 (.reg [mv 17 8,
 o1 18 (.un .not (.t 17)),
 mv 19 18,
 ⟨(some 20),.move (.t 1),some (19,false)⟩,
 ⟨(some 21),.bin .lss (.t 20) (.c (.i .i64 0)),some (19,false)⟩,
 o1 22 (.pick (.t 19) (.c (.b true)) (.t 21)),
 mv 23 22,
 ⟨(some 24),.move (.t 1),some (23,false)⟩,
 ⟨(some 25),.bin .gtr (.t 24) (.c (.i .i64 30)),some (23,false)⟩,
 o1 26 (.pick (.t 23) (.c (.b true)) (.t 25))] [1,2,26])
 (.cond (.t 26)
 (.seq
 (.reg [o1 4 (.move (.c (.s []))),
 o1 5 (.move (.c (.s []))),
 o1 6 (.move (.c (.s []))),
 o1 7 (.move (.c (.b false)))] [4,5,6,7])
 (.ret))
 (.skip)))
 (.seq
 (.reg [mv 27 1,
 o1 28 (.call false (.f 188) [(.t 27)]),
 mv 9 28] [2,9])
 (.seq
 (.reg [o1 30 (.fieldAddr 0 (.t 2)),
 o1 31 (.load false 1 (.t 30)),
 mv 32 9,
 o1 33 (.call false (.f 118) [(.t 31),(.t 32)]),
 mv 29 33,
 o1 34 (.ext (.t 29) 0),
 o1 35 (.ext (.t 29) 1),
 mv 10 34,
 mv 11 35] [2,9,10,11])
 (.seq
 (.seq
 (.reg [mv 36 11,
 o1 37 (.bin .neq (.t 36) (.c (.i .i64 0)))] [2,9,10,37])
 (.cond (.t 37)
 (.seq
 (.reg [o1 4 (.move (.c (.s []))),
 o1 5 (.move (.c (.s []))),
 o1 6 (.move (.c (.s []))),
 o1 7 (.move (.c (.b false)))] [4,5,6,7])
 (.ret))
 (.skip)))
 (.seq
 (.reg [mv 39 10,
 o1 40 (.fieldAddr 1 (.t 2)),
 o1 41 (.load false 1 (.t 40)),
 o1 42 (.call false (.f 98) [(.t 39),(.t 41)]),
 mv 38 42,
 o1 43 (.ext (.t 38) 0),
 o1 44 (.ext (.t 38) 1),
 o1 45 (.ext (.t 38) 2),
 mv 12 43,
 mv 13 44,
 mv 14 45] [9,12,13,14])
 (.seq
 (.reg [mv 46 12,
 mv 47 13,
 mv 48 9,
 mv 49 14,
 o1 50 (.bin .eql (.t 49) (.c (.i .i64 0))),
 mv 4 46,
 mv 5 47,
 mv 6 48,
 mv 7 50] [4,5,6,7])
 (.ret))))))))
def c174:SF:=⟨51,[.t 4,.t 5,.t 6,.t 7],b174,none⟩
def h178:Hints:=⟨[(0,[0,1,3]),(1,[0,1,3,8]),(3,[0,1,3,18]),(2,[0,1,3])],[]⟩
def l178_0:C :=
 .seq
 (.seq
 (.reg [mv 7 3,
 o1 8 (.bin .geq (.t 7) (.c (.i .i64 0)))] [0,1,3,8])
 (.cond (.t 8)
 (.skip)
 (.exit 0)))
 (.seq
 (.block 1 (.seq
 (.reg [mv 11 0,
 mv 12 3,
 o1 13 (.load false 1 (.t 1)),
 mv 14 3,
 o1 15 (.ixS 1 (.t 13) (.t 14)),
 o1 16 (.load false 1 (.t 15)),
 o1 17 (.call false (.t 11) [(.t 12),(.t 16)]),
 o1 18 (.un .not (.t 17))] [0,1,3,18])
 (.cond (.t 18)
 (.ret)
 (.skip))))
 (.reg [mv 9 3,
 o1 10 (.bin .sub (.t 9) (.c (.i .i64 1))),
 mv 3 10] [0,1,3]))
def b178:C :=
 .seq
 (.reg [o1 4 (.load false 1 (.t 1)),
 o1 5 (.len false (.t 4)),
 o1 6 (.bin .sub (.t 5) (.c (.i .i64 1))),
 mv 3 6] [0,1,3])
 (.block 0 (.loop l178_0))
def c178:SF:=⟨19,[],b178,none⟩
def h179:Hints:=⟨[(0,[0,1,2]),(1,[4])],[]⟩
def b179:C :=
 .seq
 (.reg [o1 4 (.move (.c (.i .i64 0)))] [0,1,2])
 (.seq
 (.draw [⟨0,o1 5 (.load false 1 (.t 1)),0,[]⟩,
 ⟨1,mv 6 0,0,[]⟩,
 ⟨3,o1 8 (.load false 1 (.t 2)),0,[]⟩,
 ⟨2,o1 7 (.call false (.f 155) [(.t 5),(.t 6)]),1,[3]⟩,
 ⟨4,o1 9 (.bin .mul (.t 7) (.t 8)),0,[]⟩,
 ⟨5,mv 4 9,0,[]⟩] [4])
 (.ret))
def c179:SF:=⟨10,[.t 4],b179,none⟩
def h182:Hints:=⟨[(0,[0]),(1,[2])],[]⟩
def b182:C :=
 .seq
 (.reg [o1 2 (.move (.c (.b false)))] [0])
 (.seq
 (.reg [mv 3 0,
 mv 4 0,
 o1 5 (.bin .neq (.t 3) (.t 4)),
 mv 2 5] [2])
 (.ret))
def c182:SF:=⟨6,[.t 2],b182,none⟩
def h187:Hints:=⟨[(0,[0]),(1,[2])],[(1,0),(1,2)]⟩
def b187:C :=
 .seq
 (.reg [o1 2 (.move (.c (.ls [])))] [0])
 (.seq
 (.reg [o1 3 (.bslice true 3 1 [(.i .i64 0)] 0 []),
 mv 4 0,
 o1 5 (.appF 3 1 8 (.t 3) (.t 4)),
 o1 6 (.call false (.f 171) [(.t 5)]),
 mv 2 6] [2])
 (.ret))
def c187:SF:=⟨7,[.t 2],b187,none⟩
def h188:Hints:=⟨[(0,[0]),(1,[0,3]),(2,[0,3,4]),(3,[0,3,4,7]),(5,[0,3,4]),(4,[0,3,4]),(6,[2])],[]⟩
def l188_0:C :=
 .seq
 (.seq
 (.reg [mv 5 4,
 mv 6 0,
 o1 7 (.bin .lss (.t 5) (.t 6))] [0,3,4,7])
 (.cond (.t 7)
 (.skip)
 (.exit 0)))
 (.seq
 (.block 1 (.reg [mv 10 3,
 o1 11 (.bin .add (.t 10) (.c (.s [48]))),
 mv 3 11] [0,3,4]))
 (.reg [mv 8 4,
 o1 9 (.bin .add (.t 8) (.c (.i .i64 1))),
 mv 4 9] [0,3,4]))
def b188:C :=
 .seq
 (.reg [o1 2 (.move (.c (.s [])))] [0])
 (.seq
 (.reg [o1 3 (.move (.c (.s [49])))] [0,3])
 (.seq
 (.seq
 (.reg [o1 4 (.move (.c (.i .i64 0)))] [0,3,4])
 (.block 0 (.loop l188_0)))
 (.seq
 (.reg [mv 12 3,
 mv 2 12] [2])
 (.ret))))
def c188:SF:=⟨13,[.t 2],b188,none⟩
def tabF:List (Nat×SF):=[
 (6,c6),
 (10,c10),
 (11,c11),
 (12,c12),
 (13,c13),
 (14,c14),
 (15,c15),
 (16,c16),
 (17,c17),
 (18,c18),
 (19,c19),
 (21,c21),
 (22,c22),
 (23,c23),
 (24,c24),
 (25,c25),
 (26,c26),
 (27,c27),
 (28,c28),
 (29,c29),
 (30,c30),
 (31,c31),
 (32,c32),
 (33,c33),
 (34,c34),
 (35,c35),
 (36,c36),
 (37,c37),
 (38,c38),
 (39,c39),
 (40,c40),
 (41,c41),
 (42,c42),
 (43,c43),
 (44,c44),
 (45,c45),
 (46,c46),
 (47,c47),
 (48,c48),
 (49,c49),
 (50,c50),
 (51,c51),
 (52,c52),
 (53,c53),
 (54,c54),
 (55,c55),
 (56,c56),
 (57,c57),
 (58,c58),
 (59,c59),
 (60,c60),
 (61,c61),
 (63,c63),
 (64,c64),
 (65,c65),
 (66,c66),
 (67,c67),
 (68,c68),
 (69,c69),
 (70,c70),
 (71,c71),
 (72,c72),
 (73,c73),
 (74,c74),
 (75,c75),
 (76,c76),
 (77,c77),
 (78,c78),
 (79,c79),
 (80,c80),
 (81,c81),
 (82,c82),
 (83,c83),
 (84,c84),
 (85,c85),
 (86,c86),
 (87,c87),
 (88,c88),
 (89,c89),
 (90,c90),
 (91,c91),
 (92,c92),
 (93,c93),
 (94,c94),
 (95,c95),
 (96,c96),
 (97,c97),
 (98,c98),
 (99,c99),
 (100,c100),
 (101,c101),
 (102,c102),
 (103,c103),
 (104,c104),
 (105,c105),
 (106,c106),
 (107,c107),
 (110,c110),
 (111,c111),
 (112,c112),
 (113,c113),
 (114,c114),
 (115,c115),
 (116,c116),
 (117,c117),
 (118,c118),
 (119,c119),
 (121,c121),
 (122,c122),
 (123,c123),
 (124,c124),
 (125,c125),
 (126,c126),
 (127,c127),
 (128,c128),
 (129,c129),
 (130,c130),
 (131,c131),
 (132,c132),
 (133,c133),
 (134,c134),
 (135,c135),
 (136,c136),
 (137,c137),
 (138,c138),
 (139,c139),
 (141,c141),
 (142,c142),
 (143,c143),
 (144,c144),
 (145,c145),
 (146,c146),
 (147,c147),
 (148,c148),
 (149,c149),
 (150,c150),
 (151,c151),
 (152,c152),
 (153,c153),
 (154,c154),
 (155,c155),
 (156,c156),
 (158,c158),
 (160,c160),
 (163,c163),
 (164,c164),
 (165,c165),
 (166,c166),
 (171,c171),
 (172,c172),
 (173,c173),
 (174,c174),
 (178,c178),
 (179,c179),
 (182,c182),
 (187,c187),
 (188,c188)]
def tabD:List (Nat×DF):=[
 (108,d108),
 (140,d140)]
end
end Go.Proofs.YtmiioebapckcoaaGreatDoor
