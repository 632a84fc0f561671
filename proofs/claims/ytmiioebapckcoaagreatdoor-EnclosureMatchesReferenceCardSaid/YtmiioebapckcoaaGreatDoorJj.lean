/- Part 10 of a proof: the small semantics, its soundness, the functions of the program in it, and the law. -/
import Derived.Test.YtmiioebapckcoaaGreatDoorProg
import Derived.KernelRfl
import Derived.WalkKit
import Derived.LaidEql
import Derived.RowKitTokens
import Derived.Lib.AtoiErrMem
import Derived.Stop.Asserts
import Derived.Lib.AppendIntMem
import Derived.Test.YtmiioebapckcoaaGreatDoorJi
set_option linter.unusedVariables false
set_option linter.unusedSimpArgs false
namespace Go.Proofs.YtmiioebapckcoaaGreatDoor
section
open Go
def OktrF (k : Nat) (hs : Hints) (x : SF) : Prop := ∃ fn, Tryz.prog.funcs[k]? = some fn ∧ trF Tryz.prog hs fn = some x ∧ (fn.name == "runtime.NumGoroutine") = false
def OktrFD (k : Nat) (hs : Hints) (x : SF) : Prop := ∃ fn, Tryz.prog.funcs[k]? = some fn ∧ trFD Tryz.prog hs fn = some x ∧ (fn.name == "runtime.NumGoroutine") = false
def OktrDF (k : Nat) (hs : Hints) (x : DF) : Prop := ∃ fn, Tryz.prog.funcs[k]? = some fn ∧ trDF Tryz.prog hs fn = some x ∧ (fn.name == "runtime.NumGoroutine") = false
theorem t6:OktrF 6 h6 c6:=⟨Tryz.f6,Tryz.func6,by kernel_rfl,by kernel_rfl⟩
theorem t10:OktrF 10 h10 c10:=⟨Tryz.f10,Tryz.func10,by kernel_rfl,by kernel_rfl⟩
theorem t11:OktrF 11 h11 c11:=⟨Tryz.f11,Tryz.func11,by kernel_rfl,by kernel_rfl⟩
theorem t12:OktrF 12 h12 c12:=⟨Tryz.f12,Tryz.func12,by kernel_rfl,by kernel_rfl⟩
theorem t13:OktrF 13 h13 c13:=⟨Tryz.f13,Tryz.func13,by kernel_rfl,by kernel_rfl⟩
theorem t14:OktrF 14 h14 c14:=⟨Tryz.f14,Tryz.func14,by kernel_rfl,by kernel_rfl⟩
theorem t15:OktrF 15 h15 c15:=⟨Tryz.f15,Tryz.func15,by kernel_rfl,by kernel_rfl⟩
theorem t16:OktrF 16 h16 c16:=⟨Tryz.f16,Tryz.func16,by kernel_rfl,by kernel_rfl⟩
theorem t17:OktrF 17 h17 c17:=⟨Tryz.f17,Tryz.func17,by kernel_rfl,by kernel_rfl⟩
theorem t18:OktrF 18 h18 c18:=⟨Tryz.f18,Tryz.func18,by kernel_rfl,by kernel_rfl⟩
theorem t19:OktrF 19 h19 c19:=⟨Tryz.f19,Tryz.func19,by kernel_rfl,by kernel_rfl⟩
theorem t21:OktrF 21 h21 c21:=⟨Tryz.f21,Tryz.func21,by kernel_rfl,by kernel_rfl⟩
theorem t22:OktrF 22 h22 c22:=⟨Tryz.f22,Tryz.func22,by kernel_rfl,by kernel_rfl⟩
theorem t23:OktrF 23 h23 c23:=⟨Tryz.f23,Tryz.func23,by kernel_rfl,by kernel_rfl⟩
theorem t24:OktrF 24 h24 c24:=⟨Tryz.f24,Tryz.func24,by kernel_rfl,by kernel_rfl⟩
theorem t25:OktrF 25 h25 c25:=⟨Tryz.f25,Tryz.func25,by kernel_rfl,by kernel_rfl⟩
theorem t26:OktrF 26 h26 c26:=⟨Tryz.f26,Tryz.func26,by kernel_rfl,by kernel_rfl⟩
theorem t27:OktrF 27 h27 c27:=⟨Tryz.f27,Tryz.func27,by kernel_rfl,by kernel_rfl⟩
theorem t28:OktrF 28 h28 c28:=⟨Tryz.f28,Tryz.func28,by kernel_rfl,by kernel_rfl⟩
theorem t29:OktrF 29 h29 c29:=⟨Tryz.f29,Tryz.func29,by kernel_rfl,by kernel_rfl⟩
theorem t30:OktrF 30 h30 c30:=⟨Tryz.f30,Tryz.func30,by kernel_rfl,by kernel_rfl⟩
theorem t31:OktrF 31 h31 c31:=⟨Tryz.f31,Tryz.func31,by kernel_rfl,by kernel_rfl⟩
theorem t32:OktrF 32 h32 c32:=⟨Tryz.f32,Tryz.func32,by kernel_rfl,by kernel_rfl⟩
theorem t33:OktrF 33 h33 c33:=⟨Tryz.f33,Tryz.func33,by kernel_rfl,by kernel_rfl⟩
theorem t34:OktrF 34 h34 c34:=⟨Tryz.f34,Tryz.func34,by kernel_rfl,by kernel_rfl⟩
theorem t35:OktrF 35 h35 c35:=⟨Tryz.f35,Tryz.func35,by kernel_rfl,by kernel_rfl⟩
theorem t36:OktrF 36 h36 c36:=⟨Tryz.f36,Tryz.func36,by kernel_rfl,by kernel_rfl⟩
theorem t37:OktrF 37 h37 c37:=⟨Tryz.f37,Tryz.func37,by kernel_rfl,by kernel_rfl⟩
theorem t38:OktrF 38 h38 c38:=⟨Tryz.f38,Tryz.func38,by kernel_rfl,by kernel_rfl⟩
theorem t39:OktrF 39 h39 c39:=⟨Tryz.f39,Tryz.func39,by kernel_rfl,by kernel_rfl⟩
theorem t40:OktrF 40 h40 c40:=⟨Tryz.f40,Tryz.func40,by kernel_rfl,by kernel_rfl⟩
theorem t41:OktrF 41 h41 c41:=⟨Tryz.f41,Tryz.func41,by kernel_rfl,by kernel_rfl⟩
theorem t42:OktrF 42 h42 c42:=⟨Tryz.f42,Tryz.func42,by kernel_rfl,by kernel_rfl⟩
theorem t43:OktrF 43 h43 c43:=⟨Tryz.f43,Tryz.func43,by kernel_rfl,by kernel_rfl⟩
theorem t44:OktrF 44 h44 c44:=⟨Tryz.f44,Tryz.func44,by kernel_rfl,by kernel_rfl⟩
theorem t45:OktrF 45 h45 c45:=⟨Tryz.f45,Tryz.func45,by kernel_rfl,by kernel_rfl⟩
theorem t46:OktrF 46 h46 c46:=⟨Tryz.f46,Tryz.func46,by kernel_rfl,by kernel_rfl⟩
theorem t47:OktrF 47 h47 c47:=⟨Tryz.f47,Tryz.func47,by kernel_rfl,by kernel_rfl⟩
theorem t48:OktrF 48 h48 c48:=⟨Tryz.f48,Tryz.func48,by kernel_rfl,by kernel_rfl⟩
theorem t49:OktrFD 49 h49 c49:=⟨Tryz.f49,Tryz.func49,by kernel_rfl,by kernel_rfl⟩
theorem t50:OktrF 50 h50 c50:=⟨Tryz.f50,Tryz.func50,by kernel_rfl,by kernel_rfl⟩
theorem t51:OktrF 51 h51 c51:=⟨Tryz.f51,Tryz.func51,by kernel_rfl,by kernel_rfl⟩
theorem t52:OktrF 52 h52 c52:=⟨Tryz.f52,Tryz.func52,by kernel_rfl,by kernel_rfl⟩
theorem t53:OktrF 53 h53 c53:=⟨Tryz.f53,Tryz.func53,by kernel_rfl,by kernel_rfl⟩
theorem t54:OktrF 54 h54 c54:=⟨Tryz.f54,Tryz.func54,by kernel_rfl,by kernel_rfl⟩
theorem t55:OktrF 55 h55 c55:=⟨Tryz.f55,Tryz.func55,by kernel_rfl,by kernel_rfl⟩
theorem t56:OktrF 56 h56 c56:=⟨Tryz.f56,Tryz.func56,by kernel_rfl,by kernel_rfl⟩
theorem t57:OktrF 57 h57 c57:=⟨Tryz.f57,Tryz.func57,by kernel_rfl,by kernel_rfl⟩
theorem t58:OktrF 58 h58 c58:=⟨Tryz.f58,Tryz.func58,by kernel_rfl,by kernel_rfl⟩
theorem t59:OktrF 59 h59 c59:=⟨Tryz.f59,Tryz.func59,by kernel_rfl,by kernel_rfl⟩
theorem t60:OktrF 60 h60 c60:=⟨Tryz.f60,Tryz.func60,by kernel_rfl,by kernel_rfl⟩
theorem t61:OktrF 61 h61 c61:=⟨Tryz.f61,Tryz.func61,by kernel_rfl,by kernel_rfl⟩
theorem t63:OktrF 63 h63 c63:=⟨Tryz.f63,Tryz.func63,by kernel_rfl,by kernel_rfl⟩
theorem t64:OktrF 64 h64 c64:=⟨Tryz.f64,Tryz.func64,by kernel_rfl,by kernel_rfl⟩
theorem t65:OktrF 65 h65 c65:=⟨Tryz.f65,Tryz.func65,by kernel_rfl,by kernel_rfl⟩
theorem t66:OktrF 66 h66 c66:=⟨Tryz.f66,Tryz.func66,by kernel_rfl,by kernel_rfl⟩
theorem t67:OktrF 67 h67 c67:=⟨Tryz.f67,Tryz.func67,by kernel_rfl,by kernel_rfl⟩
theorem t68:OktrF 68 h68 c68:=⟨Tryz.f68,Tryz.func68,by kernel_rfl,by kernel_rfl⟩
theorem t69:OktrF 69 h69 c69:=⟨Tryz.f69,Tryz.func69,by kernel_rfl,by kernel_rfl⟩
theorem t70:OktrF 70 h70 c70:=⟨Tryz.f70,Tryz.func70,by kernel_rfl,by kernel_rfl⟩
theorem t71:OktrF 71 h71 c71:=⟨Tryz.f71,Tryz.func71,by kernel_rfl,by kernel_rfl⟩
theorem t72:OktrF 72 h72 c72:=⟨Tryz.f72,Tryz.func72,by kernel_rfl,by kernel_rfl⟩
theorem t73:OktrF 73 h73 c73:=⟨Tryz.f73,Tryz.func73,by kernel_rfl,by kernel_rfl⟩
theorem t74:OktrF 74 h74 c74:=⟨Tryz.f74,Tryz.func74,by kernel_rfl,by kernel_rfl⟩
theorem t75:OktrF 75 h75 c75:=⟨Tryz.f75,Tryz.func75,by kernel_rfl,by kernel_rfl⟩
theorem t76:OktrF 76 h76 c76:=⟨Tryz.f76,Tryz.func76,by kernel_rfl,by kernel_rfl⟩
theorem t77:OktrF 77 h77 c77:=⟨Tryz.f77,Tryz.func77,by kernel_rfl,by kernel_rfl⟩
theorem t78:OktrF 78 h78 c78:=⟨Tryz.f78,Tryz.func78,by kernel_rfl,by kernel_rfl⟩
theorem t79:OktrF 79 h79 c79:=⟨Tryz.f79,Tryz.func79,by kernel_rfl,by kernel_rfl⟩
theorem t80:OktrF 80 h80 c80:=⟨Tryz.f80,Tryz.func80,by kernel_rfl,by kernel_rfl⟩
theorem t81:OktrF 81 h81 c81:=⟨Tryz.f81,Tryz.func81,by kernel_rfl,by kernel_rfl⟩
theorem t82:OktrF 82 h82 c82:=⟨Tryz.f82,Tryz.func82,by kernel_rfl,by kernel_rfl⟩
theorem t83:OktrF 83 h83 c83:=⟨Tryz.f83,Tryz.func83,by kernel_rfl,by kernel_rfl⟩
theorem t84:OktrF 84 h84 c84:=⟨Tryz.f84,Tryz.func84,by kernel_rfl,by kernel_rfl⟩
theorem t85:OktrF 85 h85 c85:=⟨Tryz.f85,Tryz.func85,by kernel_rfl,by kernel_rfl⟩
theorem t86:OktrF 86 h86 c86:=⟨Tryz.f86,Tryz.func86,by kernel_rfl,by kernel_rfl⟩
theorem t87:OktrF 87 h87 c87:=⟨Tryz.f87,Tryz.func87,by kernel_rfl,by kernel_rfl⟩
theorem t88:OktrF 88 h88 c88:=⟨Tryz.f88,Tryz.func88,by kernel_rfl,by kernel_rfl⟩
theorem t89:OktrF 89 h89 c89:=⟨Tryz.f89,Tryz.func89,by kernel_rfl,by kernel_rfl⟩
theorem t90:OktrF 90 h90 c90:=⟨Tryz.f90,Tryz.func90,by kernel_rfl,by kernel_rfl⟩
theorem t91:OktrF 91 h91 c91:=⟨Tryz.f91,Tryz.func91,by kernel_rfl,by kernel_rfl⟩
theorem t92:OktrFD 92 h92 c92:=⟨Tryz.f92,Tryz.func92,by kernel_rfl,by kernel_rfl⟩
theorem t93:OktrF 93 h93 c93:=⟨Tryz.f93,Tryz.func93,by kernel_rfl,by kernel_rfl⟩
theorem t94:OktrF 94 h94 c94:=⟨Tryz.f94,Tryz.func94,by kernel_rfl,by kernel_rfl⟩
theorem t95:OktrF 95 h95 c95:=⟨Tryz.f95,Tryz.func95,by kernel_rfl,by kernel_rfl⟩
theorem t96:OktrF 96 h96 c96:=⟨Tryz.f96,Tryz.func96,by kernel_rfl,by kernel_rfl⟩
theorem t97:OktrF 97 h97 c97:=⟨Tryz.f97,Tryz.func97,by kernel_rfl,by kernel_rfl⟩
theorem t98:OktrF 98 h98 c98:=⟨Tryz.f98,Tryz.func98,by kernel_rfl,by kernel_rfl⟩
theorem t99:OktrF 99 h99 c99:=⟨Tryz.f99,Tryz.func99,by kernel_rfl,by kernel_rfl⟩
theorem t100:OktrF 100 h100 c100:=⟨Tryz.f100,Tryz.func100,by kernel_rfl,by kernel_rfl⟩
theorem t101:OktrF 101 h101 c101:=⟨Tryz.f101,Tryz.func101,by kernel_rfl,by kernel_rfl⟩
theorem t102:OktrF 102 h102 c102:=⟨Tryz.f102,Tryz.func102,by kernel_rfl,by kernel_rfl⟩
theorem t103:OktrF 103 h103 c103:=⟨Tryz.f103,Tryz.func103,by kernel_rfl,by kernel_rfl⟩
theorem t104:OktrF 104 h104 c104:=⟨Tryz.f104,Tryz.func104,by kernel_rfl,by kernel_rfl⟩
theorem t105:OktrF 105 h105 c105:=⟨Tryz.f105,Tryz.func105,by kernel_rfl,by kernel_rfl⟩
theorem t106:OktrF 106 h106 c106:=⟨Tryz.f106,Tryz.func106,by kernel_rfl,by kernel_rfl⟩
theorem t107:OktrF 107 h107 c107:=⟨Tryz.f107,Tryz.func107,by kernel_rfl,by kernel_rfl⟩
theorem t108:OktrDF 108 h108 d108:=⟨Tryz.f108,Tryz.func108,by kernel_rfl,by kernel_rfl⟩
theorem t110:OktrF 110 h110 c110:=⟨Tryz.f110,Tryz.func110,by kernel_rfl,by kernel_rfl⟩
theorem t111:OktrF 111 h111 c111:=⟨Tryz.f111,Tryz.func111,by kernel_rfl,by kernel_rfl⟩
theorem t112:OktrF 112 h112 c112:=⟨Tryz.f112,Tryz.func112,by kernel_rfl,by kernel_rfl⟩
theorem t113:OktrF 113 h113 c113:=⟨Tryz.f113,Tryz.func113,by kernel_rfl,by kernel_rfl⟩
theorem t114:OktrF 114 h114 c114:=⟨Tryz.f114,Tryz.func114,by kernel_rfl,by kernel_rfl⟩
theorem t115:OktrF 115 h115 c115:=⟨Tryz.f115,Tryz.func115,by kernel_rfl,by kernel_rfl⟩
theorem t116:OktrF 116 h116 c116:=⟨Tryz.f116,Tryz.func116,by kernel_rfl,by kernel_rfl⟩
theorem t117:OktrF 117 h117 c117:=⟨Tryz.f117,Tryz.func117,by kernel_rfl,by kernel_rfl⟩
theorem t118:OktrF 118 h118 c118:=⟨Tryz.f118,Tryz.func118,by kernel_rfl,by kernel_rfl⟩
theorem t119:OktrF 119 h119 c119:=⟨Tryz.f119,Tryz.func119,by kernel_rfl,by kernel_rfl⟩
theorem t121:OktrF 121 h121 c121:=⟨Tryz.f121,Tryz.func121,by kernel_rfl,by kernel_rfl⟩
theorem t122:OktrF 122 h122 c122:=⟨Tryz.f122,Tryz.func122,by kernel_rfl,by kernel_rfl⟩
theorem t123:OktrF 123 h123 c123:=⟨Tryz.f123,Tryz.func123,by kernel_rfl,by kernel_rfl⟩
theorem t124:OktrF 124 h124 c124:=⟨Tryz.f124,Tryz.func124,by kernel_rfl,by kernel_rfl⟩
theorem t125:OktrF 125 h125 c125:=⟨Tryz.f125,Tryz.func125,by kernel_rfl,by kernel_rfl⟩
theorem t126:OktrF 126 h126 c126:=⟨Tryz.f126,Tryz.func126,by kernel_rfl,by kernel_rfl⟩
theorem t127:OktrF 127 h127 c127:=⟨Tryz.f127,Tryz.func127,by kernel_rfl,by kernel_rfl⟩
theorem t128:OktrF 128 h128 c128:=⟨Tryz.f128,Tryz.func128,by kernel_rfl,by kernel_rfl⟩
theorem t129:OktrF 129 h129 c129:=⟨Tryz.f129,Tryz.func129,by kernel_rfl,by kernel_rfl⟩
theorem t130:OktrF 130 h130 c130:=⟨Tryz.f130,Tryz.func130,by kernel_rfl,by kernel_rfl⟩
theorem t131:OktrF 131 h131 c131:=⟨Tryz.f131,Tryz.func131,by kernel_rfl,by kernel_rfl⟩
theorem t132:OktrF 132 h132 c132:=⟨Tryz.f132,Tryz.func132,by kernel_rfl,by kernel_rfl⟩
theorem t133:OktrF 133 h133 c133:=⟨Tryz.f133,Tryz.func133,by kernel_rfl,by kernel_rfl⟩
theorem t134:OktrF 134 h134 c134:=⟨Tryz.f134,Tryz.func134,by kernel_rfl,by kernel_rfl⟩
theorem t135:OktrF 135 h135 c135:=⟨Tryz.f135,Tryz.func135,by kernel_rfl,by kernel_rfl⟩
theorem t136:OktrF 136 h136 c136:=⟨Tryz.f136,Tryz.func136,by kernel_rfl,by kernel_rfl⟩
theorem t137:OktrF 137 h137 c137:=⟨Tryz.f137,Tryz.func137,by kernel_rfl,by kernel_rfl⟩
theorem t138:OktrF 138 h138 c138:=⟨Tryz.f138,Tryz.func138,by kernel_rfl,by kernel_rfl⟩
theorem t139:OktrF 139 h139 c139:=⟨Tryz.f139,Tryz.func139,by kernel_rfl,by kernel_rfl⟩
theorem t140:OktrDF 140 h140 d140:=⟨Tryz.f140,Tryz.func140,by kernel_rfl,by kernel_rfl⟩
theorem t141:OktrF 141 h141 c141:=⟨Tryz.f141,Tryz.func141,by kernel_rfl,by kernel_rfl⟩
theorem t142:OktrF 142 h142 c142:=⟨Tryz.f142,Tryz.func142,by kernel_rfl,by kernel_rfl⟩
theorem t143:OktrF 143 h143 c143:=⟨Tryz.f143,Tryz.func143,by kernel_rfl,by kernel_rfl⟩
theorem t144:OktrF 144 h144 c144:=⟨Tryz.f144,Tryz.func144,by kernel_rfl,by kernel_rfl⟩
theorem t145:OktrF 145 h145 c145:=⟨Tryz.f145,Tryz.func145,by kernel_rfl,by kernel_rfl⟩
theorem t146:OktrF 146 h146 c146:=⟨Tryz.f146,Tryz.func146,by kernel_rfl,by kernel_rfl⟩
theorem t147:OktrF 147 h147 c147:=⟨Tryz.f147,Tryz.func147,by kernel_rfl,by kernel_rfl⟩
theorem t148:OktrF 148 h148 c148:=⟨Tryz.f148,Tryz.func148,by kernel_rfl,by kernel_rfl⟩
theorem t149:OktrF 149 h149 c149:=⟨Tryz.f149,Tryz.func149,by kernel_rfl,by kernel_rfl⟩
theorem t150:OktrF 150 h150 c150:=⟨Tryz.f150,Tryz.func150,by kernel_rfl,by kernel_rfl⟩
theorem t151:OktrF 151 h151 c151:=⟨Tryz.f151,Tryz.func151,by kernel_rfl,by kernel_rfl⟩
theorem t152:OktrF 152 h152 c152:=⟨Tryz.f152,Tryz.func152,by kernel_rfl,by kernel_rfl⟩
theorem t153:OktrF 153 h153 c153:=⟨Tryz.f153,Tryz.func153,by kernel_rfl,by kernel_rfl⟩
theorem t154:OktrF 154 h154 c154:=⟨Tryz.f154,Tryz.func154,by kernel_rfl,by kernel_rfl⟩
theorem t155:OktrF 155 h155 c155:=⟨Tryz.f155,Tryz.func155,by kernel_rfl,by kernel_rfl⟩
theorem t156:OktrF 156 h156 c156:=⟨Tryz.f156,Tryz.func156,by kernel_rfl,by kernel_rfl⟩
theorem t158:OktrF 158 h158 c158:=⟨Tryz.f158,Tryz.func158,by kernel_rfl,by kernel_rfl⟩
theorem t160:OktrF 160 h160 c160:=⟨Tryz.f160,Tryz.func160,by kernel_rfl,by kernel_rfl⟩
theorem t163:OktrF 163 h163 c163:=⟨Tryz.f163,Tryz.func163,by kernel_rfl,by kernel_rfl⟩
theorem t164:OktrF 164 h164 c164:=⟨Tryz.f164,Tryz.func164,by kernel_rfl,by kernel_rfl⟩
theorem t165:OktrF 165 h165 c165:=⟨Tryz.f165,Tryz.func165,by kernel_rfl,by kernel_rfl⟩
theorem t166:OktrF 166 h166 c166:=⟨Tryz.f166,Tryz.func166,by kernel_rfl,by kernel_rfl⟩
theorem t171:OktrF 171 h171 c171:=⟨Tryz.f171,Tryz.func171,by kernel_rfl,by kernel_rfl⟩
theorem t172:OktrF 172 h172 c172:=⟨Tryz.f172,Tryz.func172,by kernel_rfl,by kernel_rfl⟩
theorem t173:OktrF 173 h173 c173:=⟨Tryz.f173,Tryz.func173,by kernel_rfl,by kernel_rfl⟩
theorem t174:OktrF 174 h174 c174:=⟨Tryz.f174,Tryz.func174,by kernel_rfl,by kernel_rfl⟩
theorem t178:OktrF 178 h178 c178:=⟨Tryz.f178,Tryz.func178,by kernel_rfl,by kernel_rfl⟩
theorem t179:OktrF 179 h179 c179:=⟨Tryz.f179,Tryz.func179,by kernel_rfl,by kernel_rfl⟩
theorem t182:OktrF 182 h182 c182:=⟨Tryz.f182,Tryz.func182,by kernel_rfl,by kernel_rfl⟩
theorem t187:OktrF 187 h187 c187:=⟨Tryz.f187,Tryz.func187,by kernel_rfl,by kernel_rfl⟩
theorem t188:OktrF 188 h188 c188:=⟨Tryz.f188,Tryz.func188,by kernel_rfl,by kernel_rfl⟩
theorem all_cons {α:Type}{p:α→Prop}{x:α}{l:List α} (h:p x) (t:∀ y∈l,p y):∀ y∈x::l,p y:=fun y hy=>(List.mem_cons.1 hy).elim (fun e=>e▸h) (t y)
theorem all_nil {α:Type}{p:α→Prop}:∀ y∈([]:List α),p y:=fun _ h=>nomatch h
set_option maxRecDepth 100000 in
theorem tabF_ok : ∀ p ∈ tabF, ∃ hs fn, Tryz.prog.funcs[p.1]? = some fn ∧ (trF Tryz.prog hs fn = some p.2 ∨ trFD Tryz.prog hs fn = some p.2) ∧ (fn.name == "runtime.NumGoroutine") = false :=
 all_cons ⟨h6,t6.imp fun _ h=>⟨h.1,.inl h.2.1,h.2.2⟩⟩ <|
 all_cons ⟨h10,t10.imp fun _ h=>⟨h.1,.inl h.2.1,h.2.2⟩⟩ <|
 all_cons ⟨h11,t11.imp fun _ h=>⟨h.1,.inl h.2.1,h.2.2⟩⟩ <|
 all_cons ⟨h12,t12.imp fun _ h=>⟨h.1,.inl h.2.1,h.2.2⟩⟩ <|
 all_cons ⟨h13,t13.imp fun _ h=>⟨h.1,.inl h.2.1,h.2.2⟩⟩ <|
 all_cons ⟨h14,t14.imp fun _ h=>⟨h.1,.inl h.2.1,h.2.2⟩⟩ <|
 all_cons ⟨h15,t15.imp fun _ h=>⟨h.1,.inl h.2.1,h.2.2⟩⟩ <|
 all_cons ⟨h16,t16.imp fun _ h=>⟨h.1,.inl h.2.1,h.2.2⟩⟩ <|
 all_cons ⟨h17,t17.imp fun _ h=>⟨h.1,.inl h.2.1,h.2.2⟩⟩ <|
 all_cons ⟨h18,t18.imp fun _ h=>⟨h.1,.inl h.2.1,h.2.2⟩⟩ <|
 all_cons ⟨h19,t19.imp fun _ h=>⟨h.1,.inl h.2.1,h.2.2⟩⟩ <|
 all_cons ⟨h21,t21.imp fun _ h=>⟨h.1,.inl h.2.1,h.2.2⟩⟩ <|
 all_cons ⟨h22,t22.imp fun _ h=>⟨h.1,.inl h.2.1,h.2.2⟩⟩ <|
 all_cons ⟨h23,t23.imp fun _ h=>⟨h.1,.inl h.2.1,h.2.2⟩⟩ <|
 all_cons ⟨h24,t24.imp fun _ h=>⟨h.1,.inl h.2.1,h.2.2⟩⟩ <|
 all_cons ⟨h25,t25.imp fun _ h=>⟨h.1,.inl h.2.1,h.2.2⟩⟩ <|
 all_cons ⟨h26,t26.imp fun _ h=>⟨h.1,.inl h.2.1,h.2.2⟩⟩ <|
 all_cons ⟨h27,t27.imp fun _ h=>⟨h.1,.inl h.2.1,h.2.2⟩⟩ <|
 all_cons ⟨h28,t28.imp fun _ h=>⟨h.1,.inl h.2.1,h.2.2⟩⟩ <|
 all_cons ⟨h29,t29.imp fun _ h=>⟨h.1,.inl h.2.1,h.2.2⟩⟩ <|
 all_cons ⟨h30,t30.imp fun _ h=>⟨h.1,.inl h.2.1,h.2.2⟩⟩ <|
 all_cons ⟨h31,t31.imp fun _ h=>⟨h.1,.inl h.2.1,h.2.2⟩⟩ <|
 all_cons ⟨h32,t32.imp fun _ h=>⟨h.1,.inl h.2.1,h.2.2⟩⟩ <|
 all_cons ⟨h33,t33.imp fun _ h=>⟨h.1,.inl h.2.1,h.2.2⟩⟩ <|
 all_cons ⟨h34,t34.imp fun _ h=>⟨h.1,.inl h.2.1,h.2.2⟩⟩ <|
 all_cons ⟨h35,t35.imp fun _ h=>⟨h.1,.inl h.2.1,h.2.2⟩⟩ <|
 all_cons ⟨h36,t36.imp fun _ h=>⟨h.1,.inl h.2.1,h.2.2⟩⟩ <|
 all_cons ⟨h37,t37.imp fun _ h=>⟨h.1,.inl h.2.1,h.2.2⟩⟩ <|
 all_cons ⟨h38,t38.imp fun _ h=>⟨h.1,.inl h.2.1,h.2.2⟩⟩ <|
 all_cons ⟨h39,t39.imp fun _ h=>⟨h.1,.inl h.2.1,h.2.2⟩⟩ <|
 all_cons ⟨h40,t40.imp fun _ h=>⟨h.1,.inl h.2.1,h.2.2⟩⟩ <|
 all_cons ⟨h41,t41.imp fun _ h=>⟨h.1,.inl h.2.1,h.2.2⟩⟩ <|
 all_cons ⟨h42,t42.imp fun _ h=>⟨h.1,.inl h.2.1,h.2.2⟩⟩ <|
 all_cons ⟨h43,t43.imp fun _ h=>⟨h.1,.inl h.2.1,h.2.2⟩⟩ <|
 all_cons ⟨h44,t44.imp fun _ h=>⟨h.1,.inl h.2.1,h.2.2⟩⟩ <|
 all_cons ⟨h45,t45.imp fun _ h=>⟨h.1,.inl h.2.1,h.2.2⟩⟩ <|
 all_cons ⟨h46,t46.imp fun _ h=>⟨h.1,.inl h.2.1,h.2.2⟩⟩ <|
 all_cons ⟨h47,t47.imp fun _ h=>⟨h.1,.inl h.2.1,h.2.2⟩⟩ <|
 all_cons ⟨h48,t48.imp fun _ h=>⟨h.1,.inl h.2.1,h.2.2⟩⟩ <|
 all_cons ⟨h49,t49.imp fun _ h=>⟨h.1,.inr h.2.1,h.2.2⟩⟩ <|
 all_cons ⟨h50,t50.imp fun _ h=>⟨h.1,.inl h.2.1,h.2.2⟩⟩ <|
 all_cons ⟨h51,t51.imp fun _ h=>⟨h.1,.inl h.2.1,h.2.2⟩⟩ <|
 all_cons ⟨h52,t52.imp fun _ h=>⟨h.1,.inl h.2.1,h.2.2⟩⟩ <|
 all_cons ⟨h53,t53.imp fun _ h=>⟨h.1,.inl h.2.1,h.2.2⟩⟩ <|
 all_cons ⟨h54,t54.imp fun _ h=>⟨h.1,.inl h.2.1,h.2.2⟩⟩ <|
 all_cons ⟨h55,t55.imp fun _ h=>⟨h.1,.inl h.2.1,h.2.2⟩⟩ <|
 all_cons ⟨h56,t56.imp fun _ h=>⟨h.1,.inl h.2.1,h.2.2⟩⟩ <|
 all_cons ⟨h57,t57.imp fun _ h=>⟨h.1,.inl h.2.1,h.2.2⟩⟩ <|
 all_cons ⟨h58,t58.imp fun _ h=>⟨h.1,.inl h.2.1,h.2.2⟩⟩ <|
 all_cons ⟨h59,t59.imp fun _ h=>⟨h.1,.inl h.2.1,h.2.2⟩⟩ <|
 all_cons ⟨h60,t60.imp fun _ h=>⟨h.1,.inl h.2.1,h.2.2⟩⟩ <|
 all_cons ⟨h61,t61.imp fun _ h=>⟨h.1,.inl h.2.1,h.2.2⟩⟩ <|
 all_cons ⟨h63,t63.imp fun _ h=>⟨h.1,.inl h.2.1,h.2.2⟩⟩ <|
 all_cons ⟨h64,t64.imp fun _ h=>⟨h.1,.inl h.2.1,h.2.2⟩⟩ <|
 all_cons ⟨h65,t65.imp fun _ h=>⟨h.1,.inl h.2.1,h.2.2⟩⟩ <|
 all_cons ⟨h66,t66.imp fun _ h=>⟨h.1,.inl h.2.1,h.2.2⟩⟩ <|
 all_cons ⟨h67,t67.imp fun _ h=>⟨h.1,.inl h.2.1,h.2.2⟩⟩ <|
 all_cons ⟨h68,t68.imp fun _ h=>⟨h.1,.inl h.2.1,h.2.2⟩⟩ <|
 all_cons ⟨h69,t69.imp fun _ h=>⟨h.1,.inl h.2.1,h.2.2⟩⟩ <|
 all_cons ⟨h70,t70.imp fun _ h=>⟨h.1,.inl h.2.1,h.2.2⟩⟩ <|
 all_cons ⟨h71,t71.imp fun _ h=>⟨h.1,.inl h.2.1,h.2.2⟩⟩ <|
 all_cons ⟨h72,t72.imp fun _ h=>⟨h.1,.inl h.2.1,h.2.2⟩⟩ <|
 all_cons ⟨h73,t73.imp fun _ h=>⟨h.1,.inl h.2.1,h.2.2⟩⟩ <|
 all_cons ⟨h74,t74.imp fun _ h=>⟨h.1,.inl h.2.1,h.2.2⟩⟩ <|
 all_cons ⟨h75,t75.imp fun _ h=>⟨h.1,.inl h.2.1,h.2.2⟩⟩ <|
 all_cons ⟨h76,t76.imp fun _ h=>⟨h.1,.inl h.2.1,h.2.2⟩⟩ <|
 all_cons ⟨h77,t77.imp fun _ h=>⟨h.1,.inl h.2.1,h.2.2⟩⟩ <|
 all_cons ⟨h78,t78.imp fun _ h=>⟨h.1,.inl h.2.1,h.2.2⟩⟩ <|
 all_cons ⟨h79,t79.imp fun _ h=>⟨h.1,.inl h.2.1,h.2.2⟩⟩ <|
 all_cons ⟨h80,t80.imp fun _ h=>⟨h.1,.inl h.2.1,h.2.2⟩⟩ <|
 all_cons ⟨h81,t81.imp fun _ h=>⟨h.1,.inl h.2.1,h.2.2⟩⟩ <|
 all_cons ⟨h82,t82.imp fun _ h=>⟨h.1,.inl h.2.1,h.2.2⟩⟩ <|
 all_cons ⟨h83,t83.imp fun _ h=>⟨h.1,.inl h.2.1,h.2.2⟩⟩ <|
 all_cons ⟨h84,t84.imp fun _ h=>⟨h.1,.inl h.2.1,h.2.2⟩⟩ <|
 all_cons ⟨h85,t85.imp fun _ h=>⟨h.1,.inl h.2.1,h.2.2⟩⟩ <|
 all_cons ⟨h86,t86.imp fun _ h=>⟨h.1,.inl h.2.1,h.2.2⟩⟩ <|
 all_cons ⟨h87,t87.imp fun _ h=>⟨h.1,.inl h.2.1,h.2.2⟩⟩ <|
 all_cons ⟨h88,t88.imp fun _ h=>⟨h.1,.inl h.2.1,h.2.2⟩⟩ <|
 all_cons ⟨h89,t89.imp fun _ h=>⟨h.1,.inl h.2.1,h.2.2⟩⟩ <|
 all_cons ⟨h90,t90.imp fun _ h=>⟨h.1,.inl h.2.1,h.2.2⟩⟩ <|
 all_cons ⟨h91,t91.imp fun _ h=>⟨h.1,.inl h.2.1,h.2.2⟩⟩ <|
 all_cons ⟨h92,t92.imp fun _ h=>⟨h.1,.inr h.2.1,h.2.2⟩⟩ <|
 all_cons ⟨h93,t93.imp fun _ h=>⟨h.1,.inl h.2.1,h.2.2⟩⟩ <|
 all_cons ⟨h94,t94.imp fun _ h=>⟨h.1,.inl h.2.1,h.2.2⟩⟩ <|
 all_cons ⟨h95,t95.imp fun _ h=>⟨h.1,.inl h.2.1,h.2.2⟩⟩ <|
 all_cons ⟨h96,t96.imp fun _ h=>⟨h.1,.inl h.2.1,h.2.2⟩⟩ <|
 all_cons ⟨h97,t97.imp fun _ h=>⟨h.1,.inl h.2.1,h.2.2⟩⟩ <|
 all_cons ⟨h98,t98.imp fun _ h=>⟨h.1,.inl h.2.1,h.2.2⟩⟩ <|
 all_cons ⟨h99,t99.imp fun _ h=>⟨h.1,.inl h.2.1,h.2.2⟩⟩ <|
 all_cons ⟨h100,t100.imp fun _ h=>⟨h.1,.inl h.2.1,h.2.2⟩⟩ <|
 all_cons ⟨h101,t101.imp fun _ h=>⟨h.1,.inl h.2.1,h.2.2⟩⟩ <|
 all_cons ⟨h102,t102.imp fun _ h=>⟨h.1,.inl h.2.1,h.2.2⟩⟩ <|
 all_cons ⟨h103,t103.imp fun _ h=>⟨h.1,.inl h.2.1,h.2.2⟩⟩ <|
 all_cons ⟨h104,t104.imp fun _ h=>⟨h.1,.inl h.2.1,h.2.2⟩⟩ <|
 all_cons ⟨h105,t105.imp fun _ h=>⟨h.1,.inl h.2.1,h.2.2⟩⟩ <|
 all_cons ⟨h106,t106.imp fun _ h=>⟨h.1,.inl h.2.1,h.2.2⟩⟩ <|
 all_cons ⟨h107,t107.imp fun _ h=>⟨h.1,.inl h.2.1,h.2.2⟩⟩ <|
 all_cons ⟨h110,t110.imp fun _ h=>⟨h.1,.inl h.2.1,h.2.2⟩⟩ <|
 all_cons ⟨h111,t111.imp fun _ h=>⟨h.1,.inl h.2.1,h.2.2⟩⟩ <|
 all_cons ⟨h112,t112.imp fun _ h=>⟨h.1,.inl h.2.1,h.2.2⟩⟩ <|
 all_cons ⟨h113,t113.imp fun _ h=>⟨h.1,.inl h.2.1,h.2.2⟩⟩ <|
 all_cons ⟨h114,t114.imp fun _ h=>⟨h.1,.inl h.2.1,h.2.2⟩⟩ <|
 all_cons ⟨h115,t115.imp fun _ h=>⟨h.1,.inl h.2.1,h.2.2⟩⟩ <|
 all_cons ⟨h116,t116.imp fun _ h=>⟨h.1,.inl h.2.1,h.2.2⟩⟩ <|
 all_cons ⟨h117,t117.imp fun _ h=>⟨h.1,.inl h.2.1,h.2.2⟩⟩ <|
 all_cons ⟨h118,t118.imp fun _ h=>⟨h.1,.inl h.2.1,h.2.2⟩⟩ <|
 all_cons ⟨h119,t119.imp fun _ h=>⟨h.1,.inl h.2.1,h.2.2⟩⟩ <|
 all_cons ⟨h121,t121.imp fun _ h=>⟨h.1,.inl h.2.1,h.2.2⟩⟩ <|
 all_cons ⟨h122,t122.imp fun _ h=>⟨h.1,.inl h.2.1,h.2.2⟩⟩ <|
 all_cons ⟨h123,t123.imp fun _ h=>⟨h.1,.inl h.2.1,h.2.2⟩⟩ <|
 all_cons ⟨h124,t124.imp fun _ h=>⟨h.1,.inl h.2.1,h.2.2⟩⟩ <|
 all_cons ⟨h125,t125.imp fun _ h=>⟨h.1,.inl h.2.1,h.2.2⟩⟩ <|
 all_cons ⟨h126,t126.imp fun _ h=>⟨h.1,.inl h.2.1,h.2.2⟩⟩ <|
 all_cons ⟨h127,t127.imp fun _ h=>⟨h.1,.inl h.2.1,h.2.2⟩⟩ <|
 all_cons ⟨h128,t128.imp fun _ h=>⟨h.1,.inl h.2.1,h.2.2⟩⟩ <|
 all_cons ⟨h129,t129.imp fun _ h=>⟨h.1,.inl h.2.1,h.2.2⟩⟩ <|
 all_cons ⟨h130,t130.imp fun _ h=>⟨h.1,.inl h.2.1,h.2.2⟩⟩ <|
 all_cons ⟨h131,t131.imp fun _ h=>⟨h.1,.inl h.2.1,h.2.2⟩⟩ <|
 all_cons ⟨h132,t132.imp fun _ h=>⟨h.1,.inl h.2.1,h.2.2⟩⟩ <|
 all_cons ⟨h133,t133.imp fun _ h=>⟨h.1,.inl h.2.1,h.2.2⟩⟩ <|
 all_cons ⟨h134,t134.imp fun _ h=>⟨h.1,.inl h.2.1,h.2.2⟩⟩ <|
 all_cons ⟨h135,t135.imp fun _ h=>⟨h.1,.inl h.2.1,h.2.2⟩⟩ <|
 all_cons ⟨h136,t136.imp fun _ h=>⟨h.1,.inl h.2.1,h.2.2⟩⟩ <|
 all_cons ⟨h137,t137.imp fun _ h=>⟨h.1,.inl h.2.1,h.2.2⟩⟩ <|
 all_cons ⟨h138,t138.imp fun _ h=>⟨h.1,.inl h.2.1,h.2.2⟩⟩ <|
 all_cons ⟨h139,t139.imp fun _ h=>⟨h.1,.inl h.2.1,h.2.2⟩⟩ <|
 all_cons ⟨h141,t141.imp fun _ h=>⟨h.1,.inl h.2.1,h.2.2⟩⟩ <|
 all_cons ⟨h142,t142.imp fun _ h=>⟨h.1,.inl h.2.1,h.2.2⟩⟩ <|
 all_cons ⟨h143,t143.imp fun _ h=>⟨h.1,.inl h.2.1,h.2.2⟩⟩ <|
 all_cons ⟨h144,t144.imp fun _ h=>⟨h.1,.inl h.2.1,h.2.2⟩⟩ <|
 all_cons ⟨h145,t145.imp fun _ h=>⟨h.1,.inl h.2.1,h.2.2⟩⟩ <|
 all_cons ⟨h146,t146.imp fun _ h=>⟨h.1,.inl h.2.1,h.2.2⟩⟩ <|
 all_cons ⟨h147,t147.imp fun _ h=>⟨h.1,.inl h.2.1,h.2.2⟩⟩ <|
 all_cons ⟨h148,t148.imp fun _ h=>⟨h.1,.inl h.2.1,h.2.2⟩⟩ <|
 all_cons ⟨h149,t149.imp fun _ h=>⟨h.1,.inl h.2.1,h.2.2⟩⟩ <|
 all_cons ⟨h150,t150.imp fun _ h=>⟨h.1,.inl h.2.1,h.2.2⟩⟩ <|
 all_cons ⟨h151,t151.imp fun _ h=>⟨h.1,.inl h.2.1,h.2.2⟩⟩ <|
 all_cons ⟨h152,t152.imp fun _ h=>⟨h.1,.inl h.2.1,h.2.2⟩⟩ <|
 all_cons ⟨h153,t153.imp fun _ h=>⟨h.1,.inl h.2.1,h.2.2⟩⟩ <|
 all_cons ⟨h154,t154.imp fun _ h=>⟨h.1,.inl h.2.1,h.2.2⟩⟩ <|
 all_cons ⟨h155,t155.imp fun _ h=>⟨h.1,.inl h.2.1,h.2.2⟩⟩ <|
 all_cons ⟨h156,t156.imp fun _ h=>⟨h.1,.inl h.2.1,h.2.2⟩⟩ <|
 all_cons ⟨h158,t158.imp fun _ h=>⟨h.1,.inl h.2.1,h.2.2⟩⟩ <|
 all_cons ⟨h160,t160.imp fun _ h=>⟨h.1,.inl h.2.1,h.2.2⟩⟩ <|
 all_cons ⟨h163,t163.imp fun _ h=>⟨h.1,.inl h.2.1,h.2.2⟩⟩ <|
 all_cons ⟨h164,t164.imp fun _ h=>⟨h.1,.inl h.2.1,h.2.2⟩⟩ <|
 all_cons ⟨h165,t165.imp fun _ h=>⟨h.1,.inl h.2.1,h.2.2⟩⟩ <|
 all_cons ⟨h166,t166.imp fun _ h=>⟨h.1,.inl h.2.1,h.2.2⟩⟩ <|
 all_cons ⟨h171,t171.imp fun _ h=>⟨h.1,.inl h.2.1,h.2.2⟩⟩ <|
 all_cons ⟨h172,t172.imp fun _ h=>⟨h.1,.inl h.2.1,h.2.2⟩⟩ <|
 all_cons ⟨h173,t173.imp fun _ h=>⟨h.1,.inl h.2.1,h.2.2⟩⟩ <|
 all_cons ⟨h174,t174.imp fun _ h=>⟨h.1,.inl h.2.1,h.2.2⟩⟩ <|
 all_cons ⟨h178,t178.imp fun _ h=>⟨h.1,.inl h.2.1,h.2.2⟩⟩ <|
 all_cons ⟨h179,t179.imp fun _ h=>⟨h.1,.inl h.2.1,h.2.2⟩⟩ <|
 all_cons ⟨h182,t182.imp fun _ h=>⟨h.1,.inl h.2.1,h.2.2⟩⟩ <|
 all_cons ⟨h187,t187.imp fun _ h=>⟨h.1,.inl h.2.1,h.2.2⟩⟩ <|
 all_cons ⟨h188,t188.imp fun _ h=>⟨h.1,.inl h.2.1,h.2.2⟩⟩ <| all_nil
theorem tabD_ok : ∀ p ∈ tabD, ∃ hs fn, Tryz.prog.funcs[p.1]? = some fn ∧ trDF Tryz.prog hs fn = some p.2 ∧ (fn.name == "runtime.NumGoroutine") = false :=
 all_cons ⟨h108,t108⟩ <|
 all_cons ⟨h140,t140⟩ <| all_nil
end
end Go.Proofs.YtmiioebapckcoaaGreatDoor
section
namespace Num
def val (b:Nat):List Nat→Nat
 | []=>0
 | d::l=>d+b*val b l
def digs (b:Nat) (n:Nat):List Nat :=
 if h:n=0∨b<2 then [] else (n%b)::digs b (n/b)
termination_by n
decreasing_by exact Nat.div_lt_self (by omega) (by omega)
theorem digs_zero (b:Nat):digs b 0=[]:=by rw[digs];simp
theorem digs_pos {b n:Nat} (hb:2≤b) (hn:0<n):digs b n=(n%b)::digs b (n/b):=by
 rw[digs];rw[dif_neg (by omega)]
theorem val_digs {b:Nat} (hb:2≤b) (n:Nat):val b (digs b n)=n:=by
 induction n using Nat.strongRecOn with
 | _ n ih =>
   by_cases h:n=0
   ·subst h;simp[digs_zero,val]
   ·rw[digs_pos hb (by omega),val,ih _ (Nat.div_lt_self (by omega) (by omega))]
    exact Nat.mod_add_div n b
theorem digs_lt {b:Nat} (hb:2≤b) (n:Nat):∀ d∈digs b n,d<b:=by
 induction n using Nat.strongRecOn with
 | _ n ih =>
   by_cases h:n=0
   ·subst h;simp[digs_zero]
   ·rw[digs_pos hb (by omega)]
    intro d hd
    rcases List.mem_cons.1 hd with h' | h'
    ·subst h'; exact Nat.mod_lt _ (by omega)
    ·exact ih _ (Nat.div_lt_self (by omega) (by omega)) d h'
theorem digs_eq_nil {b:Nat} (hb:2≤b) {n:Nat}:digs b n=[]↔n=0:=by
 constructor
 ·intro h;have:=val_digs hb n;rw[h] at this;simpa[val] using this.symm
 ·intro h;subst h;exact digs_zero b
theorem val_append (b:Nat) (l m:List Nat):val b (l++m)=val b l+b ^ l.length*val b m:=by
 induction l with
 | nil=>simp[val]
 | cons d l ih=>simp only[List.cons_append,val,ih,List.length_cons,Nat.pow_succ];rw[Nat.mul_add];rw[Nat.mul_comm (b ^ l.length) b,Nat.mul_assoc];omega
theorem val_lt {b:Nat} (hb:0<b) (l:List Nat) (h:∀ d∈l,d<b):val b l<b ^ l.length:=by
 induction l with
 | nil=>simp[val]
 | cons d l ih =>
   have h1:=ih (fun d hd=>h d (List.mem_cons_of_mem _ hd))
   have h2:=h d (List.mem_cons_self ..)
   simp only[val,List.length_cons,Nat.pow_succ]
   have h3:b*val b l+b≤b*b ^ l.length:=by
    rw[← Nat.mul_succ];exact Nat.mul_le_mul_left b h1
   rw[Nat.mul_comm (b ^ l.length) b];omega
def Trimmed (l:List Nat):Prop:=∀ d,l.getLast? = some d→d≠0
theorem digs_val {b:Nat} (hb:2≤b):∀ (l:List Nat),(∀ d∈l,d<b)→Trimmed l→digs b (val b l)=l
 | [],_,_=>by simp[val,digs_zero]
 | d::l,h,ht=>by
   have hd:=h d (List.mem_cons_self ..)
   have hl:∀ d∈l,d<b:=fun d hd=>h d (List.mem_cons_of_mem _ hd)
   have htl:Trimmed l:=by
    intro e he
    apply ht
    cases l with
    | nil=>simp at he
    | cons x xs=>simpa[List.getLast?_cons_cons] using he
   have ih:=digs_val hb l hl htl
   by_cases h0:val b (d::l)=0
   ·simp only[val] at h0
    have hd0:d=0:=by omega
    have hm:b*val b l=0:=by omega
    have hv:val b l=0:=by
     rcases Nat.mul_eq_zero.1 hm with h | h
     ·omega
     ·exact h
    rw[hv,digs_zero] at ih
    subst ih
    exact absurd hd0 (ht d (by simp))
   ·rw[digs_pos hb (by omega)]
    have e1:val b (d::l)%b=d:=by simp only[val];rw[Nat.add_mul_mod_self_left,Nat.mod_eq_of_lt hd]
    have e2:val b (d::l)/b=val b l:=by
     simp only[val];rw[Nat.add_mul_div_left _ _ (by omega),Nat.div_eq_of_lt hd,Nat.zero_add]
    rw[e1,e2,ih]
theorem digs_trimmed {b:Nat} (hb:2≤b) (n:Nat):Trimmed (digs b n):=by
 induction n using Nat.strongRecOn with
 | _ n ih =>
   by_cases h:n=0
   ·subst h;simp[digs_zero,Trimmed]
   ·rw[digs_pos hb (by omega)]
    intro e he
    by_cases h2:n/b=0
    ·rw[h2,digs_zero] at he
     simp at he
     have hlt:n<b:=by
      rcases Nat.lt_or_ge n b with h | h
      ·exact h
      ·have:=Nat.div_pos h (by omega);omega
     rw[Nat.mod_eq_of_lt hlt] at he
     omega
    ·refine ih (n/b) (Nat.div_lt_self (by omega) (by omega)) e ?_
     have:digs b (n/b)≠[]:=fun h=>h2 ((digs_eq_nil hb).1 h)
     cases hd:digs b (n/b) with
     | nil=>exact absurd hd this
     | cons x xs=>rw[hd] at he;simpa[List.getLast?_cons_cons] using he
theorem digs_length_le {b:Nat} (hb:2≤b) {n k:Nat}:(digs b n).length≤k↔n<b ^ k:=by
 induction k generalizing n with
 | zero=>simp only[Nat.pow_zero];rw[Nat.le_zero_eq,List.length_eq_zero_iff,digs_eq_nil hb];omega
 | succ k ih =>
   by_cases h:n=0
   ·subst h;simp[digs_zero];exact Nat.pow_pos (by omega)
   ·rw[digs_pos hb (by omega)]
    simp only[List.length_cons,Nat.add_le_add_iff_right]
    rw[ih,Nat.pow_succ,Nat.div_lt_iff_lt_mul (by omega)]
def trim (l:List Nat):List Nat:=(l.reverse.dropWhile (· == 0)).reverse
theorem trim_concat_zero (l:List Nat):trim (l++[0])=trim l:=by simp[trim]
theorem trim_concat_pos (l:List Nat) {d:Nat} (h:d≠0):trim (l++[d])=l++[d]:=by simp[trim,List.dropWhile_cons,h]
theorem trim_nil:trim []=[]:=rfl
theorem trim_eq_digs {b:Nat} (hb:2≤b) (l:List Nat) (h:∀ d∈l,d<b):trim l=digs b (val b l):=by
 have key:∀ (r:List Nat),(∀ d∈r,d<b)→trim r.reverse=digs b (val b r.reverse):=by
  intro r
  induction r with
  | nil=>intro _;simp[trim,val,digs_zero]
  | cons d r ih =>
    intro hr
    have hr':∀ d∈r,d<b:=fun d hd=>hr d (List.mem_cons_of_mem _ hd)
    rw[List.reverse_cons]
    by_cases h0:d=0
    ·subst h0
     rw[trim_concat_zero,ih hr',val_append]
     simp[val]
    ·rw[trim_concat_pos _ h0]
     refine(digs_val hb _ ?_ ?_).symm
     ·intro e he
      rcases List.mem_append.1 he with h' | h'
      ·exact hr' e (List.mem_reverse.1 h')
      ·simp at h'; subst h'; exact hr e (List.mem_cons_self ..)
     ·intro e he;simp at he;omega
 have:=key l.reverse (fun d hd=>h d (List.mem_reverse.1 hd))
 simpa using this
theorem val_digs_trim {b:Nat} (hb:2≤b) (l:List Nat) (h:∀ d∈l,d<b):val b (trim l)=val b l:=by
 rw[trim_eq_digs hb l h,val_digs hb]
end Num
end
section
namespace Num
def ch (d:Nat):UInt8:=UInt8.ofNat (48+d)
theorem ch_toNat {d:Nat} (h:d<10):(ch d).toNat=48+d:=by
 unfold ch;rw[UInt8.toNat_ofNat'];omega
theorem ch_inj {d e:Nat} (h:d<10) (h':e<10) (hc:ch d=ch e):d=e:=by
 have:=congrArg UInt8.toNat hc
 rw[ch_toNat h,ch_toNat h'] at this;omega
def isDig (b:UInt8):Bool:=decide (48≤b.toNat)&&decide (b.toNat≤57)
theorem isDig_ch {d:Nat} (h:d<10):isDig (ch d)=true:=by
 unfold isDig;rw[ch_toNat h];simp;omega
theorem ch_sub {b:UInt8} (h:isDig b=true):ch (b.toNat-48)=b∧b.toNat-48<10:=by
 unfold isDig at h;simp at h
 refine⟨?_,by omega⟩
 unfold ch
 apply UInt8.toNat_inj.1
 rw[UInt8.toNat_ofNat'];have:=b.toNat_lt;omega
def dval (l:List UInt8):Nat:=l.foldl (fun a b=>10*a+(b.toNat-48)) 0
def dg (l:List UInt8):List Nat:=l.map fun b=>b.toNat-48
theorem foldl_val (l:List UInt8) (a:Nat):l.foldl (fun a b=>10*a+(b.toNat-48)) a=10 ^ l.length*a+val 10 (dg l.reverse):=by
 induction l generalizing a with
 | nil=>simp[dg,val]
 | cons b l ih =>
   rw[List.foldl_cons,ih]
   simp only[List.length_cons,List.reverse_cons,dg,List.map_append,List.map_cons,List.map_nil,val_append,List.length_map,List.length_reverse,val]
   rw[Nat.pow_succ,Nat.mul_add]
   have:10 ^ l.length*(10*a)=10 ^ l.length*10*a:=by rw[Nat.mul_assoc]
   rw[this];simp only[Nat.mul_zero,Nat.add_zero];omega
theorem dval_eq (l:List UInt8):dval l=val 10 (dg l.reverse):=by
 unfold dval;rw[foldl_val];simp
theorem dval_append (l m:List UInt8):dval (l++m)=10 ^ m.length*dval l+dval m:=by
 unfold dval;rw[List.foldl_append,foldl_val m];rw[dval_eq' m]
where
 dval_eq' (m:List UInt8):val 10 (dg m.reverse)=m.foldl (fun a b=>10*a+(b.toNat-48)) 0:=by rw[foldl_val];simp
def txtN (n:Nat):List UInt8:=if n=0 then [48] else (digs 10 n).reverse.map ch
def txt (z:Int):List UInt8:=if z<0 then 45::txtN z.natAbs else txtN z.natAbs
theorem dg_map_ch (l:List Nat) (h:∀ d∈l,d<10):dg (l.map ch)=l:=by
 induction l with
 | nil=>rfl
 | cons d l ih =>
   simp only[dg,List.map_cons] at ih ⊢
   rw[ih (fun e he=>h e (List.mem_cons_of_mem _ he)),ch_toNat (h d (List.mem_cons_self ..))]
   simp
theorem dval_txtN (n:Nat):dval (txtN n)=n:=by
 unfold txtN
 split
 ·rename_i h;subst h;rfl
 ·rw[dval_eq,← List.map_reverse,List.reverse_reverse,dg_map_ch _ (digs_lt (by omega) n),val_digs (by omega)]
theorem txtN_dig (n:Nat):∀ b∈txtN n,isDig b=true:=by
 unfold txtN
 split
 ·intro b hb;simp at hb;subst hb;rfl
 ·intro b hb
  simp only[List.mem_map,List.mem_reverse] at hb
  obtain⟨d,hd,rfl⟩:=hb
  exact isDig_ch (digs_lt (by omega) n d hd)
theorem txtN_ne (n:Nat):txtN n≠[]:=by
 unfold txtN
 split
 ·simp
 ·rename_i h;simp[digs_eq_nil,h]
theorem txtN_length {n k:Nat} (hk:0<k):(txtN n).length≤k↔n<10 ^ k:=by
 unfold txtN
 split
 ·rename_i h;subst h;simp;exact⟨fun _=>Nat.pow_pos (by omega),fun _=>hk⟩
 ·simp[digs_length_le]
theorem txtN_head {n:Nat} (h:n≠0):∃ b l,txtN n=b::l∧b≠48:=by
 unfold txtN
 rw[if_neg h]
 have ht:=digs_trimmed (b:=10) (by omega) n
 have hne:digs 10 n≠[]:=fun h'=>h ((digs_eq_nil (by omega)).1 h')
 obtain⟨l,d,hl⟩:∃ l d,digs 10 n=l++[d]:=⟨_,_,(List.dropLast_concat_getLast hne).symm⟩
 rw[hl]
 refine⟨ch d,l.reverse.map ch,by simp,fun hc=>?_⟩
 have hd0:=ht d (by rw[hl];simp)
 have hd:d<10:=digs_lt (b:=10) (by omega) n d (by rw[hl];simp)
 have:=congrArg UInt8.toNat hc
 rw[ch_toNat hd] at this
 simp at this;omega
theorem txtN_dval {l:List UInt8} (hd:∀ b∈l,isDig b=true) {b:UInt8}{r:List UInt8} (hl:l=b::r) (h0:b≠48):txtN (dval l)=l:=by
 have hlt:∀ d∈dg l.reverse,d<10:=by
  intro d hd'
  simp only[dg,List.mem_map,List.mem_reverse] at hd'
  obtain⟨c,hc,rfl⟩:=hd'
  exact(ch_sub (hd c hc)).2
 have hb:=ch_sub (hd b (by rw[hl];simp))
 have htr:Trimmed (dg l.reverse):=by
  intro e he
  rw[hl] at he
  simp[dg] at he
  subst he
  intro h
  apply h0
  rw[← hb.1,h];rfl
 have hv:=digs_val (b:=10) (by omega) _ hlt htr
 have hne:dval l≠0:=by
  intro h
  rw[dval_eq] at h
  rw[h,digs_zero,hl] at hv
  simp[dg] at hv
 unfold txtN
 rw[if_neg hne,dval_eq,hv]
 unfold dg
 rw[← List.map_reverse,List.reverse_reverse,List.map_map]
 conv=>rhs;rw[← List.map_id l]
 refine List.map_congr_left fun c hc=>?_
 exact(ch_sub (hd c hc)).1
def unsign:List UInt8→List UInt8
 | 45::l=>l
 | l=>l
def neg (l:List UInt8):Bool:=l.head? == some 45
def validI (s:List UInt8):Bool:=(unsign s).all isDig&&decide (0<(unsign s).length)&&decide ((unsign s).length≤200)&&(s==[48]||(unsign s).head? != some 48)
def toInt (s:List UInt8):Int:=if neg s then -(dval (unsign s):Int) else dval (unsign s)
def Fits (z:Int):Prop:=z.natAbs<10 ^ 200
instance (z:Int):Decidable (Fits z):=inferInstanceAs (Decidable (_<_))
theorem txtN_cons45 (n:Nat):∀ l,txtN n≠45::l:=by
 intro l h
 have:=txtN_dig n 45 (by rw[h];simp)
 simp[isDig] at this
theorem unsign_txt (z:Int):unsign (txt z)=txtN z.natAbs:=by
 unfold txt
 split
 ·rfl
 ·unfold unsign;split
  ·rename_i l h;exact absurd h (txtN_cons45 _ _)
  ·rfl
theorem neg_txt (z:Int):neg (txt z)=decide (z<0):=by
 unfold txt neg
 split
 ·rename_i h;simp[h]
 ·rename_i h
  cases hh:txtN z.natAbs with
  | nil=>exact absurd hh (txtN_ne _)
  | cons b l =>
    have hb:b≠45:=fun e=>txtN_cons45 _ _ (by rw[hh,e])
    simp[h,hb]
theorem toInt_txt (z:Int):toInt (txt z)=z:=by
 unfold toInt
 rw[neg_txt,unsign_txt,dval_txtN]
 by_cases h:z<0<;>simp[h]<;>omega
theorem txt_inj {a b:Int} (h:txt a=txt b):a=b:=by rw[← toInt_txt a,h,toInt_txt]
theorem txt_zero:txt 0=[48]:=rfl
theorem txt_one:txt 1=[49]:=by
 unfold txt txtN
 rw[if_neg (by omega),if_neg (by decide),show Int.natAbs 1=1 by rfl,digs_pos (by omega) (by omega),show 1/10=0 by rfl,digs_zero];rfl
theorem validI_txt (z:Int):validI (txt z)=decide (Fits z):=by
 unfold validI
 rw[unsign_txt]
 have h1:(txtN z.natAbs).all isDig=true:=List.all_eq_true.2 (txtN_dig _)
 have h2:0<(txtN z.natAbs).length:=List.length_pos_iff.2 (txtN_ne _)
 have h3:(txt z==[48]||(txtN z.natAbs).head? != some 48)=true:=by
  by_cases h0:z=0
  ·subst h0;rfl
  ·obtain⟨b,l,e,hb⟩:=txtN_head (n:=z.natAbs) (by omega)
   rw[e];simp[hb]
 rw[h1,h3]
 simp only[h2,decide_true,Bool.and_true,Bool.true_and,txtN_length (show 0<200 by omega)]
 rfl
theorem validI_iff (s:List UInt8):validI s=true↔∃ z:Int,Fits z∧s=txt z:=by
 constructor
 ·intro h
  have h':=h
  simp only[validI,Bool.and_eq_true,decide_eq_true_eq,List.all_eq_true,Bool.or_eq_true,beq_iff_eq,bne_iff_ne] at h
  obtain⟨⟨⟨h1,h2⟩,h3⟩,h4⟩:=h
  rcases h4 with h4 | h4
  ·exact⟨0,by simp[Fits],h4⟩
  ·cases hu:unsign s with
   | nil=>rw[hu] at h2;simp at h2
   | cons b r =>
     have hb:b≠48:=by rw[hu] at h4;simpa using h4
     have key:=txtN_dval (l:=unsign s) h1 hu hb
     have hpos:dval (unsign s)≠0:=by
      intro h0;rw[h0] at key;rw[hu] at key
      have:b=48:=by
       have:=congrArg List.head? key
       simp[txtN] at this;exact this.symm
      exact hb this
     have hs:s=txt (toInt s):=by
      unfold toInt
      by_cases hn:neg s=true
      ·rw[if_pos hn]
       have:s=45::unsign s:=by
        cases s with
        | nil=>simp[neg] at hn
        | cons c l=>simp[neg] at hn;subst hn;rfl
       unfold txt
       rw[if_pos (by omega),Int.natAbs_neg,Int.natAbs_natCast,key]
       exact this
      ·rw[if_neg hn]
       have:unsign s=s:=by
        cases s with
        | nil=>rfl
        | cons c l =>
          have hc:c≠45:=by simpa[neg] using hn
          unfold unsign;split
          ·rename_i h;exact absurd (List.cons.inj h).1 hc
          ·rfl
       unfold txt
       rw[if_neg (by omega)]
       rw[show ((dval (unsign s):Nat):Int).natAbs=dval (unsign s) by omega,key,this]
     refine⟨toInt s,?_,hs⟩
     have:=validI_txt (toInt s)
     rw[← hs,h'] at this
     simpa using this.symm
 ·rintro⟨z,hz,rfl⟩
  rw[validI_txt];simpa using hz
def ival (s:List UInt8):Option Int:=if validI s then some (toInt s) else none
theorem ival_txt {z:Int} (h:Fits z):ival (txt z)=some z:=by
 unfold ival;rw[validI_txt,toInt_txt];simp[h]
theorem ival_some {s:List UInt8}{z:Int} (h:ival s=some z):Fits z∧s=txt z:=by
 unfold ival at h
 split at h
 ·rename_i hv
  obtain⟨y,hy,rfl⟩:=(validI_iff s).1 hv
  rw[toInt_txt] at h;cases h
  exact⟨hy,rfl⟩
 ·cases h
end Num
end
namespace Go.Proofs.YtmiioebapckcoaaGreatDoor
section
open Go
def lookF {α:Type}:List (Nat×α)→Nat→Option α
 | [],_=>none
 | (k,v)::l,f=>if f=k then some v else lookF l f
theorem lookF_mem {α:Type}:∀ {l:List (Nat×α)}{f:Nat}{v:α},lookF l f=some v→(f,v)∈l
 | [],f,v,h=>by simp[lookF] at h
 | (k,x)::l,f,v,h=>by
   unfold lookF at h
   split at h
   ·rename_i e;cases h;subst e;simp
   ·exact List.mem_cons_of_mem _ (lookF_mem h)
def orcF (f:FuncId) (ds:List D):Option D :=
 if f=175 then (match ds with
  | [.s a,.s b]=>some (.s (Lib.trimPrefix a b))
  | _=>none)
 else if f=176 then (match ds with
  | [.s a,.s b]=>if a.length≤9223372036854775807∧b.length<4294967281∧b.all (fun b=>decide (b.toNat<128))=true then some (.s (Lib.trimS a b)) else none
  | _=>none)
 else if f=177 then (match ds with
  | [.s a]=>if a.length≤18 then (match Lib.atoi a with
    | some n=>some (.tup [.i .i64 n,.nili])
    | none=>none) else none
  | _=>none)
 else if f=120 then (match ds with
  | [.s a,.i .i64 c]=>if 0≤c∧c≤9223372036854775807∧a.length*c.toNat≤140737488355328 then some (.s (Lib.repeatL a c.toNat)) else none
  | _=>none)
 else none
def pow10V:List V:=Lib.pow10Tab.map fun z=>.d (.i .u64 z)
open Classical in
noncomputable def xItoa (args:List V) (H:Hp):Option (Out×Hp):=match args with
 | [.d (.i .i64 n)]=>match hget H 4 with
   | some (.ro cs)=>if cs=pow10V∧-9223372036854775808≤n∧n≤9223372036854775807 then some (.ret (.d (.s (Lib.itoa n))),H) else none
   | _=>none
 | _=>none
def xIs (args:List V) (H:Hp):Option (Out×Hp):=match args with
 | [.ifc t (.p o i),.ifc t' (.p o' i')]=>if t=227∧t'=227∧o=o'∧i=i' then some (.ret (.d (.b true)),H) else none
 | _=>none
def xCopy (args:List V) (H:Hp):Option (Out×Hp):=match args with
 | [.p o 0]=>match hget H o with
   | some (.box ty [a,b])=>if ty=147 then (match a with
     | .d .nilp=>some (.ret (.d (.tup [])),hset H o (.box ty [.p o 0,b]))
     | .p o' 0=>if o'=o then some (.ret (.d (.tup [])),H) else none
     | _=>none) else none
   | _=>none
 | _=>none
def bytesV:List V→Option (List UInt8)
 | []=>some []
 | .d (.i .u8 n)::vs=>if 0≤n∧n<256 then (match bytesV vs with
   | some l=>some (UInt8.ofNat n.toNat::l)
   | none=>none) else none
 | _=>none
def xStr (args:List V) (H:Hp):Option (Out×Hp):=match args with
 | [.p o 0]=>match hget H o with
   | some (.box ty [_,.gr g n])=>match hget H g with
     | some (.gr ty' 1 xs)=>if ty=147∧ty'=5∧xs.length=n∧n≠0∧n≤140737488355328 then (match bytesV xs with
       | some l=>some (.ret (.d (.s l)),hset H g .dead)
       | none=>none) else none
     | _=>none
   | _=>none
 | _=>none
noncomputable def xF (f:FuncId):Option (CallF→List V→Hp→Option (Out×Hp)) :=
 if f=157 then some fun _=>xItoa
 else if f=109 then some fun _=>xIs
 else if f=181 then some fun _=>xCopy
 else if f=159 then some fun _=>xStr
 else none
noncomputable def S:Sp:=⟨lookF tabF,orcF,xF,lookF tabD⟩
theorem SX:XOk S:=by
 refine⟨fun f g h c c' hc a H=>?_,fun f g h c call hn a H=>?_⟩<;>(
  simp only[S,xF] at h
  repeat' split at h
  all_goals first | (cases h;first | exact Le.refl _ | exact Comes.const _) | cases h)
section
variable {P:Program}{X:Cx}{μ:Nat→Option Nat}{H:Hp}{w w':World}
theorem below_ext (hi:Inv X μ H w) (h:RowKit.Below w.heap.size w w'):Inv X μ H w'∧Ext X μ H w μ H w':=by
 have hx:Ext X μ H w μ H w' :=
  ⟨h.size,fun b hb _=>h.block b hb,fun b hb=>h.block b (hi.low b hb),fun _ _ h=>h,fun b c e hb _ _=>⟨c,e,(h.block b (lt_of_heap hb)).trans hb,rfl⟩,Nat.le_refl _,fun _ _ h=>⟨rfl,h⟩,fun _ _ _ xs _ h=>⟨xs,h,Nat.le_refl _,fun _=>rfl⟩,h.os,h.tape,h.output⟩
 exact⟨hi.same hx fun b hb=>h.block b hb,hx⟩
theorem orc_of {f:FuncId}{cargs:Array Value}{x:D}{c:Value} (hi:Inv X μ H w) (hc:Calls P f cargs w fun e w'=>e=.returned c∧RowKit.Below w.heap.size w w') (hx:∀ O w',HD O w' x c):Calls P f cargs w (Ends X μ H w (.ret (.d x),H)) :=
 hc.mono fun e w' ⟨he,hb⟩=>by
  obtain⟨i',x'⟩:=below_ext hi hb
  exact⟨c,he,μ,i',x',.d _ _ (hx _ _)⟩
theorem args1 {O:Bs}{N:Nat}{a:V}{c:Array Value} (h:HVs O μ H N w [a] c):∃ x,c = #[x]∧HV O μ H N w a x:=by
 obtain⟨h1,h2⟩:=h
 match c,h1 with
 | ⟨[x]⟩,_=>exact⟨x,rfl,h2 0 a rfl⟩
theorem args2 {O:Bs}{N:Nat}{a b:V}{c:Array Value} (h:HVs O μ H N w [a,b] c):∃ x y,c = #[x,y]∧HV O μ H N w a x∧HV O μ H N w b y:=by
 obtain⟨h1,h2⟩:=h
 match c,h1 with
 | ⟨[x,y]⟩,_=>exact⟨x,y,rfl,h2 0 a rfl,h2 1 b rfl⟩
theorem HV_s {O:Bs}{N:Nat}{l:List UInt8}{c:Value} (h:HV O μ H N w (.d (.s l)) c):c=.string ⟨l.toArray⟩:=by
 cases h with
 | d _ _ h=>cases h;rfl
theorem HV_i {O:Bs}{N:Nat}{k:IntKind}{n:Int}{c:Value} (h:HV O μ H N w (.d (.i k n)) c):c=.int k n:=by
 cases h with
 | d _ _ h=>cases h;rfl
theorem size_mk (l:List UInt8):(⟨l.toArray⟩:ByteArray).size=l.length:=by simp[ByteArray.size]
end
noncomputable def named (f:FuncId):Bool:=match Tryz.prog.funcs[f]? with
 | some fn => fn.body.isSome && !(fn.name == "runtime.NumGoroutine")
 | none=>false
theorem named_of {f:FuncId} (h:named f=true):Named Tryz.prog f:=by
 unfold named at h
 split at h
 ·rename_i fn hf
  simp only[Bool.and_eq_true,Bool.not_eq_true',beq_eq_false_iff_ne] at h
  exact⟨fn,hf,h.1,h.2⟩
 ·cases h
theorem orc_ok (f:FuncId) (ds:List D) (x:D) (h:orcF f ds=some x):Named Tryz.prog f ∧
 ∀ X μ H w cargs,X.P=Tryz.prog→Inv X μ H w→Gl Tryz.prog.globals.size μ H→HVs (Own X μ H) μ H H.length w (ds.map .d) cargs→Calls Tryz.prog f cargs w (Ends X μ H w (.ret (.d x),H)):=by
 unfold orcF at h
 split at h
 ·rename_i e
  subst e
  split at h
  ·rename_i a b
   cases h
   refine⟨named_of (by kernel_rfl),fun X μ H w cargs _ hi _ hv=>?_⟩
   obtain⟨c1,c2,rfl,h1,h2⟩:=args2 hv
   obtain rfl:=HV_s h1
   obtain rfl:=HV_s h2
   exact orc_of hi ((Any.strings_TrimPrefix Tryz.lays101 ⟨a.toArray⟩ ⟨b.toArray⟩ w).mono fun e w' ⟨he,hw⟩=>⟨he,hw▸RowKit.Below.refl _ _⟩) fun _ _=>.s _
  ·cases h
 ·split at h
  ·rename_i e
   subst e
   split at h
   ·rename_i a b
    split at h
    ·rename_i hc
     cases h
     refine⟨named_of (by kernel_rfl),fun X μ H w cargs _ hi _ hv=>?_⟩
     obtain⟨c1,c2,rfl,h1,h2⟩:=args2 hv
     obtain rfl:=HV_s h1
     obtain rfl:=HV_s h2
     exact orc_of hi (Any.strings_Trim_laid Tryz.lays160 (by kernel_rfl) ⟨a.toArray⟩ ⟨b.toArray⟩ w (by rw[size_mk];exact hc.1) (by rw[size_mk];exact hc.2.1) (ascii_of_all hc.2.2)) fun _ _=>.s _
    ·cases h
   ·cases h
  ·split at h
   ·rename_i e
    subst e
    split at h
    ·rename_i a
     split at h
     ·rename_i hl
      split at h
      ·rename_i n hn
       cases h
       refine⟨named_of (by kernel_rfl),fun X μ H w cargs _ hi _ hv=>?_⟩
       obtain⟨c1,rfl,h1⟩:=args1 hv
       obtain rfl:=HV_s h1
       refine orc_of hi ((Any.strconv_Atoi Tryz.lays172 ⟨a.toArray⟩ n (by rw[size_mk];exact hl) hn w).mono fun e w' ⟨he,t,hw⟩=>⟨he,hw▸Lib.bytesWorld_below _ _ _⟩) fun _ _=>.tup _ _ rfl fun j v hj=>?_
       match j,hj with
       | 0,hj=>cases hj;exact .i _ _
       | 1,hj=>cases hj;exact .nili
      ·cases h
     ·cases h
    ·cases h
   ·split at h
    ·rename_i e
     subst e
     split at h
     ·rename_i a c
      split at h
      ·rename_i hc
       cases h
       refine⟨named_of (by kernel_rfl),fun X μ H w cargs _ hi _ hv=>?_⟩
       obtain⟨c1,c2,rfl,h1,h2⟩:=args2 hv
       obtain rfl:=HV_s h1
       obtain rfl:=HV_i h2
       have hcn:((c.toNat:Nat):Int)=c:=by omega
       have:=Any.strings_Repeat Tryz.lays105 Tryz.Builder_Extra_105 ⟨a.toArray⟩ c.toNat w (by omega) (by rw[size_mk];exact hc.2.2)
       rw[hcn] at this
       exact orc_of hi this fun _ _=>.s _
      ·cases h
     ·cases h
    ·cases h
end
section
open Go Go.RowKit Go.Extern.Stop Go.Stop Go.Extern
theorem isTypeOf (v:Value) (w:World):(Extern.ReflectliteType.typeOf #[.iface 227 v]).run Tryz.prog w=.ok (.iface 167 (.agg #[.pointer (some ⟨Tryz.prog.globals.size,227,none⟩)])) w:=by kernel_rfl
theorem isComparable (w : World) : ((Extern.ReflectliteType.method fun t => do Extern.Rtype.noPackHeld "Comparable" t; (fun a => Value.bool a.comparable) <$> typeInfo t) #[.agg #[.pointer (some ⟨Tryz.prog.globals.size, 227, none⟩)]]).run Tryz.prog w = .ok (.bool true) w := by kernel_rfl
theorem isMethodComparable (v : Value) (w : World) : (Go.method (Tryz.prog.types.size + Made.depth) 167 v "Comparable").run Tryz.prog w = .ok (255, v) w := by kernel_rfl
theorem isComp:(Tryz.prog.info? 227).map (·.comparable)=some true:=by kernel_rfl
theorem isSize:(Tryz.prog.info? 229).map (·.size)=some 1:=by kernel_rfl
set_option maxRecDepth 100000 in
theorem is_same (a:Addr) (w:World) :
 Calls Tryz.prog 109 #[.iface 227 (.pointer (some a)),.iface 227 (.pointer (some a))] w fun e w'=>e=.returned (.bool true)∧w'=w:=by
 obtain⟨i,hi,hcmp⟩:=Option.map_eq_some_iff.1 isComp
 obtain⟨j,hj,hjs⟩:=Option.map_eq_some_iff.1 isSize
 have h8:=@run_callFunc_extern Tryz.prog 161 _ Extern.ReflectliteType.typeOf Tryz.func161 (by kernel_rfl) (by kernel_rfl) (by kernel_rfl) (by kernel_rfl)
 have h32 := @run_callFunc_extern Tryz.prog 255 _ (Extern.ReflectliteType.method fun t => do Extern.Rtype.noPackHeld "Comparable" t; pure (.bool (← typeInfo t).comparable)) Tryz.func255 (by kernel_rfl) (by kernel_rfl) (by kernel_rfl) (by kernel_rfl)
 have tT:=isTypeOf
 have cT:=isComparable
 have mR:=isMethodComparable
 have hty:Tryz.prog.types.size+Made.depth=362:=by kernel_rfl
 have hgl:Tryz.prog.globals.size=9:=by kernel_rfl
 rw[hty] at mR
 simp only[hgl] at tT cT
 have heq:=run_eql_iface_ptr_same (P:=Tryz.prog) w a Tryz.underlying113 Tryz.underlying227 hi hcmp hj
 go_enter Tryz.func109,Tryz.ntmps109
 go_wp2
 refine wp_loop_rounds 1 ?_
 rw[rounds_succ]
 go_wp2
 go_ret
 exact⟨rfl,rfl⟩
theorem bldSize:(Tryz.prog.info? 147).map (·.size)=some 2:=by kernel_rfl
theorem bldLies:liesAt Tryz.prog Tryz.prog.depth 147 (2/Tryz.prog.cellsOf 147) 0 147 1=true:=by kernel_rfl
set_option maxHeartbeats 1000000 in
set_option maxRecDepth 100000 in
theorem copy_used (b:Nat) (w:World) (h0:w.cell? ⟨b,0,none⟩=some (.pointer (some ⟨b,0,none⟩))) :
 Calls Tryz.prog 181 #[.pointer (some ⟨b,0,none⟩)] w fun e w'=>e=.returned (.tuple #[])∧w'=w:=by
 obtain⟨j,hj,_⟩:=Option.map_eq_some_iff.1 bldSize
 go_enter Tryz.func181,Tryz.ntmps181
 go_wp2
 rw[Lib.run_neq_ptr_same w _ Tryz.underlying145 hj]
 go_wp2
 go_end0
 exact⟨rfl,rfl⟩
set_option maxHeartbeats 1000000 in
set_option maxRecDepth 100000 in
theorem copy_fresh (b:Nat) (w:World) (h0:w.cell? ⟨b,0,none⟩=some (.pointer none)) (hsh:w.shape? b=some (147,2)) (hfz:w.frozen? ⟨b,0,none⟩=false) :
 Calls Tryz.prog 181 #[.pointer (some ⟨b,0,none⟩)] w fun e w'=>e=.returned (.tuple #[])∧w'=w.setCell ⟨b,0,none⟩ (.pointer (some ⟨b,0,none⟩)):=by
 obtain⟨j,hj,hjs⟩:=Option.map_eq_some_iff.1 bldSize
 go_enter Tryz.func181,Tryz.ntmps181
 go_wp2
 rw[Lib.run_to_unsafe w ⟨b,0,none⟩ Tryz.underlying145 Tryz.underlying192 hj (by rw[hjs];decide) hsh (Nat.zero_lt_succ 1)]
 simp only[Result.andThen]
 rw[Oper.upon_value]
 go_wp2
 rw[run_callFunc_extern Tryz.func200 (by kernel_rfl) (by kernel_rfl) (by kernel_rfl) (e:=Extern.AbiNoEscape.same) (by kernel_rfl)]
 rw[Lib.run_noEscape]
 simp only[Result.andThen]
 rw[Oper.upon_value]
 go_wp2
 rw[Lib.run_from_unsafe w ⟨b,0,none⟩ Tryz.underlying192 Tryz.underlying145 hj hsh bldLies]
 simp only[Result.andThen]
 rw[Oper.upon_value]
 go_wp2
 go_end0
 exact⟨rfl,rfl⟩
set_option maxHeartbeats 1000000 in
set_option maxRecDepth 100000 in
theorem str_ok (b g cap:Nat) (p:Value) (cur:Array Value) (l:List UInt8) (w:World) (hbk:w.heap[b]? = some (.cells #[p,.slice (some ⟨g,0,none⟩) l.length cap] 147 (0,0)))
 (hg:w.heap[g]? = some (.cells cur 5 (0,0))) (h0:l≠[]) (hcap:l.length≤cur.size) (hmax:l.length≤9223372036854775807) (hcell:∀ (j:Nat) (x:UInt8),l[j]? = some x→cur[j]? = some (.int .u8 x.toNat)) (hlc:l.length≤cap) :
 Calls Tryz.prog 159 #[.pointer (some ⟨b,0,none⟩)] w fun e w'=>e=.returned (.string ⟨l.toArray⟩)∧w'=w.drew.freeze ⟨g,0,none⟩ l.length:=by
 have hl0:l.length≠0:=by simpa using h0
 have c1:w.drew.cell? ⟨b,1,none⟩=some (.slice (some ⟨g,0,none⟩) l.length cap):=by
  have:w.drew.heap[b]? = some (.cells #[p,.slice (some ⟨g,0,none⟩) l.length cap] 147 (0,0)):=hbk
  rw[Lib.cell_of_heap this];rfl
 have hSD:(Builtin.unsafeSliceData_ #[66] 165 #[.slice (some ⟨g,0,none⟩) l.length cap]).run Tryz.prog w.drew=.ok (.pointer (some ⟨g,0,none⟩)) w.drew :=
  Lib.run_unsafeSliceData_row _ _ _ _ _ _ (by omega)
 have hUS:(Builtin.unsafeString_ #[165,3] 9 #[.pointer (some ⟨g,0,none⟩),.int .i64 l.length]).run Tryz.prog w.drew=.ok (.string ⟨l.toArray⟩) (w.drew.freeze ⟨g,0,none⟩ l.length):=by
  refine Lib.run_unsafeString_row w.drew 165 3 9 5 Tryz.underlying165 Tryz.Builder_Extra_169.cellsByte g cur.size (by have hg':w.drew.heap[g]? = some (.cells cur 5 (0,0)):=hg;simp[World.shape?,hg']) l h0 hcap hmax ?_
  intro j x hx
  have hg':w.drew.heap[g]? = some (.cells cur 5 (0,0)):=hg
  rw[add_lit,Nat.zero_add]
  simp only[World.cell?,hg']
  exact hcell j x hx
 go_enter Tryz.func159,Tryz.ntmps159
 go_wp2
 go_region
 all_goals (go_wp2;go_ret;exact⟨rfl,rfl⟩)
end
section
open Go
section
variable {P:Program}{X:Cx}{μ:Nat→Option Nat}{H:Hp}{w:World}
theorem ints_of {O:Bs}{N:Nat}{k:IntKind}:∀ {zs:List Int}{c:Array Value},HVs O μ H N w (zs.map fun z=>V.d (.i k z)) c→c=(zs.map fun z=>Value.int k z).toArray:=by
 intro zs c h
 refine Array.ext (by rw[h.1];simp) fun j h1 h2=>?_
 have hj:j<zs.length:=by rw[h.1] at h1;simpa using h1
 have:=h.2 j (.d (.i k zs[j])) (by simp[hj])
 have e:=HV_i this
 rw[Array.getD_eq_getD_getElem?,Array.getElem?_eq_getElem h1] at e
 simpa using e
theorem HV_p {O:Bs}{N:Nat}{o i:Nat}{c:Value} (h:HV O μ H N w (.p o i) c):∃ b,c=.pointer (some ⟨b,i,none⟩)∧μ o=some b:=by
 cases h with
 | p _ _ b h1 h2 h3=>exact⟨b,rfl,h2⟩
theorem HVs_two {O:Bs}{N:Nat}{a b:V}{c:Array Value} (h:HVs O μ H N w [a,b] c):∃ x y,c = #[x,y]∧HV O μ H N w a x∧HV O μ H N w b y:=args2 h
theorem xItoa_ok (args:List V) (H:Hp) (r:Out×Hp) (h:xItoa args H=some r):∀ X μ w cargs,X.P=Tryz.prog→Inv X μ H w→Gl Tryz.prog.globals.size μ H→HVs (Own X μ H) μ H H.length w args cargs→Calls Tryz.prog 157 cargs w (Ends X μ H w r):=by
 intro X μ w cargs hp hi hg hv
 unfold xItoa at h
 split at h
 ·rename_i n
  split at h
  ·rename_i cs hcs
   split at h
   ·rename_i hc
    obtain⟨hc1,hc2,hc3⟩:=hc
    subst hc1
    cases h
    obtain⟨c1,rfl,h1⟩:=args1 hv
    obtain rfl:=HV_i h1
    obtain⟨b,c,e,z,m1,m2,m3,m4⟩:=hi.obj _ _ hcs
    have hgl:=hg 4 (by rw[show Tryz.prog.globals.size=9 by kernel_rfl];omega)
    rw[hgl.2.1] at m1;cases m1
    have hcc:=ints_of m4
    subst hcc
    have htab : Lib.TabIs Tryz.prog w "internal/strconv.uint64pow10" .u64 Lib.pow10Tab := by
     unfold Lib.TabIs World.var?
     rw [show Tryz.prog.globalNamed "internal/strconv.uint64pow10" = some 4 by kernel_rfl]
     simp[m3]
    exact orc_of hi ((Any.strconv_Itoa Tryz.laysM171 n hc2 hc3 w htab).mono fun e w' ⟨he,k,os,hw⟩=>⟨he,hw▸Lib.below_grow _ w (Nat.le_refl _) k os⟩) fun _ _=>.s _
   ·cases h
  ·cases h
 ·cases h
theorem xIs_ok (args:List V) (H:Hp) (r:Out×Hp) (h:xIs args H=some r):∀ X μ w cargs,X.P=Tryz.prog→Inv X μ H w→Gl Tryz.prog.globals.size μ H→HVs (Own X μ H) μ H H.length w args cargs→Calls Tryz.prog 109 cargs w (Ends X μ H w r):=by
 intro X μ w cargs hp hi hg hv
 unfold xIs at h
 split at h
 ·rename_i t o i t' o' i'
  split at h
  ·rename_i hc
   obtain⟨rfl,rfl,rfl,rfl⟩:=hc
   cases h
   obtain⟨c1,c2,rfl,h1,h2⟩:=args2 hv
   cases h1 with
   | ifc _ _ x1 h1 =>
     cases h2 with
     | ifc _ _ x2 h2 =>
       obtain⟨b1,rfl,m1⟩:=HV_p h1
       obtain⟨b2,rfl,m2⟩:=HV_p h2
       rw[m1] at m2;cases m2
       exact orc_of hi ((is_same ⟨b1,i,none⟩ w).mono fun e w' ⟨he,hw⟩=>⟨he,hw▸RowKit.Below.refl _ _⟩) fun _ _=>.b _
  ·cases h
 ·cases h
theorem xCopy_ok (args:List V) (H:Hp) (r:Out×Hp) (h:xCopy args H=some r):∀ X μ w cargs,X.P=Tryz.prog→Inv X μ H w→Gl Tryz.prog.globals.size μ H→HVs (Own X μ H) μ H H.length w args cargs→Calls Tryz.prog 181 cargs w (Ends X μ H w r):=by
 intro X μ w cargs hp hi hg hv
 unfold xCopy at h
 split at h
 ·rename_i o
  split at h
  ·rename_i ty a b hob
   split at h
   ·rename_i hty
    subst hty
    obtain⟨c1,rfl,h1⟩:=args1 hv
    have h1':=h1
    obtain⟨bk,rfl,m1⟩:=HV_p h1
    obtain⟨bk',c,m2,m3,m4⟩:=hi.obj _ _ hob
    rw[m1] at m2;cases m2
    obtain⟨x,y,rfl,hx,hy⟩:=HVs_two m4
    split at h
    ·cases h
     have hx0:x=.pointer none:=by
      cases hx with
      | d _ _ h=>cases h;rfl
     subst hx0
     have hlt:=lt_of_heap m3
     refine(copy_fresh bk w (by simp[World.cell?,m3]) (by simp[World.shape?,m3]) (by simp[World.frozen?,m3])).mono fun e w' ⟨he,hw⟩=>?_
     subst hw
     have hob':ownedO H o:=by unfold ownedO;rw[hob];trivial
     have hst:(w.setCell ⟨bk,0,none⟩ (.pointer (some ⟨bk,0,none⟩))).heap[bk]? = some (.cells #[.pointer (some ⟨bk,0,none⟩),y] 147 (0,0)):=by
      simp only[World.setCell,Array.getElem?_modify,m3]
      simp
     have hoth:∀ k,k≠bk→(w.setCell ⟨bk,0,none⟩ (.pointer (some ⟨bk,0,none⟩))).heap[k]? = w.heap[k]? := fun k hk=>RowKit.Below.heap_setCell w _ _ k hk
     have hsz:(w.setCell ⟨bk,0,none⟩ (.pointer (some ⟨bk,0,none⟩))).heap.size=w.heap.size:=by simp[World.setCell]
     have hx2:Ext X μ H w μ (hset H o (.box 147 [.p o 0,b])) (w.setCell ⟨bk,0,none⟩ (.pointer (some ⟨bk,0,none⟩))):=Ext.turn hi hob m1 hob' m3 hst rfl hoth hsz rfl rfl rfl rfl
     refine⟨_,he,μ,hi.turn hob m1 hob' m3 hst rfl hoth hsz rfl rfl rfl rfl ?_,hx2,.d _ _ (.tup [] #[] rfl (by simp))⟩
     refine⟨bk,_,m1,hst,by simp,fun j v hj=>?_⟩
     have hlen:(hset H o (.box 147 [.p o 0,b])).length=H.length:=hset_length _ _ _
     match j,hj with
     | 0,hj=>cases hj;rw[hlen];exact(h1'.mono (Nat.le_refl _) hi hx2)
     | 1,hj=>cases hj;rw[hlen];exact(hy.mono (Nat.le_refl _) hi hx2)
    ·rename_i o'
     split at h
     ·rename_i ho'
      subst ho'
      cases h
      obtain⟨bk2,hxe,mm⟩:=HV_p hx
      rw[m1] at mm;cases mm
      subst hxe
      refine(copy_used bk w (by simp[World.cell?,m3])).mono fun e w' ⟨he,hw⟩=>?_
      subst hw
      exact⟨_,he,μ,hi,Ext.refl ..,.d _ _ (.tup [] #[] rfl (by simp))⟩
     ·cases h
    ·cases h
   ·cases h
  ·cases h
 ·cases h
theorem bytesV_ok:∀ {xs:List V}{l:List UInt8},bytesV xs=some l→l.length=xs.length∧∀ (j:Nat) x,l[j]? = some x→xs[j]? = some (.d (.i .u8 x.toNat))
 | [],l,h=>by simp only[bytesV] at h;cases h;simp
 | x::xs,l,h=>by
   unfold bytesV at h
   split at h
   ·rename_i h0;cases h0
   ·rename_i n vs h0
    cases h0
    split at h
    ·rename_i hc
     split at h
     ·rename_i l' hl'
      cases h
      obtain⟨h1,h2⟩:=bytesV_ok hl'
      refine⟨by simp[h1],fun j x hj=>?_⟩
      cases j with
      | zero =>
        simp at hj;subst hj
        have:((UInt8.ofNat n.toNat).toNat:Int)=n:=by rw[UInt8.toNat_ofNat'];omega
        rw[this];rfl
      | succ j=>exact h2 j x (by simpa using hj)
     ·cases h
    ·cases h
   ·cases h
theorem xStr_ok (args:List V) (H:Hp) (r:Out×Hp) (h:xStr args H=some r):∀ X μ w cargs,X.P=Tryz.prog→Inv X μ H w→Gl Tryz.prog.globals.size μ H→HVs (Own X μ H) μ H H.length w args cargs→Calls Tryz.prog 159 cargs w (Ends X μ H w r):=by
 intro X μ w cargs hp hi hg hv
 unfold xStr at h
 split at h
 ·rename_i o
  split at h
  ·rename_i ty a g n hob
   split at h
   ·rename_i ty' xs hgr
    split at h
    ·rename_i hc
     obtain⟨rfl,rfl,hn,hn0,hnm⟩:=hc
     split at h
     ·rename_i l hl
      cases h
      obtain⟨hll,hlx⟩:=bytesV_ok hl
      obtain⟨c1,rfl,h1⟩:=args1 hv
      obtain⟨bk,rfl,m1⟩:=HV_p h1
      obtain⟨bk',c,m2,m3,m4⟩:=hi.obj _ _ hob
      rw[m1] at m2;cases m2
      obtain⟨x,y,rfl,hx,hy⟩:=HVs_two m4
      have hgl:=hget_lt hgr
      have hgo:ownedO H g:=by unfold ownedO;rw[hgr];trivial
      cases hy with
      | gr _ _ cap ad hlt hok =>
        obtain⟨_,hok2⟩:=hok _ _ _ hgr
        rcases hok2 hn with ⟨_,hz,_⟩ | ⟨gb,cs,e,gm,rfl,hcap,hgb,hsz⟩
        ·exact absurd hz hn0
        ·obtain⟨_,hxs,hblk⟩:=hi.obj _ _ hgr
         rcases hblk with ⟨m0,_⟩ | ⟨gb',cs',gm',hgb',hl2,hrow⟩
         ·rw[gm] at m0;cases m0
         ·rw[gm] at gm'; cases gm'
          rw[hgb] at hgb'; cases hgb'
          have hln:l.length=n:=by omega
          rw[← hln] at m3
          refine(str_ok bk gb cap x cs l w m3 hgb (by intro h0;subst h0;simp at hln;omega) (by omega) (by omega) (fun j b hj=>?_) (by omega)).mono fun e w' ⟨he,hw⟩=>?_
          ·have hj1:=hlx j b hj
           have hlj:j<cs.size:=by
            have:=(List.getElem?_eq_some_iff.1 hj).1;omega
           have:=hrow j (.d (.i .u8 b.toNat)) 0 (.d (.i .u8 b.toNat)) hj1 (by simp[V.cells,D.cells])
           have e1:=HV_i this
           rw[Nat.mul_one,Nat.add_zero,Array.getD_eq_getD_getElem?,Array.getElem?_eq_getElem hlj] at e1
           rw[Array.getElem?_eq_getElem hlj]
           simpa using e1
          ·subst hw
           have hfz:∀ k,k≠gb→(w.drew.freeze ⟨gb,0,none⟩ l.length).heap[k]? = w.heap[k]? := by
            intro k hk
            unfold World.freeze
            split
            ·rfl
            ·show (w.heap.modify gb _)[k]? = _
             rw[Array.getElem?_modify,if_neg (Ne.symm hk)]
           have hfs:(w.drew.freeze ⟨gb,0,none⟩ l.length).heap.size=w.heap.size:=by
            unfold World.freeze
            split
            ·rfl
            ·show (w.heap.modify gb _).size=_
             simp
           have hown:∀ b,Own X μ (hset H g .dead) b→Own X μ H b∧b≠gb:=by
            rintro b (h | ⟨o',ho',hm'⟩)
            ·exact⟨.inl h,fun h'=>hi.xs g gb hgo gm (h'▸h)⟩
            ·have hne:o'≠g:=fun h=>by subst h;unfold ownedO at ho'; rw[hget_hset_self _ hgl] at ho'; exact ho'
             have ho2:ownedO H o':=by unfold ownedO at ho' ⊢; rw[hget_hset_other _ (Ne.symm hne)] at ho'; exact ho'
             exact⟨.inr ⟨o',ho2,hm'⟩,fun h'=>hi.inj o' g gb hne ho2 hgo (h'▸hm') gm⟩
           have hos:(w.drew.freeze ⟨gb,0,none⟩ l.length).os=w.os:=by unfold World.freeze;split<;>rfl
           have htp:(w.drew.freeze ⟨gb,0,none⟩ l.length).tape=w.tape:=by unfold World.freeze;split<;>rfl
           have hot:(w.drew.freeze ⟨gb,0,none⟩ l.length).output=w.output:=by unfold World.freeze;split<;>rfl
           have hx2:Ext X μ H w μ (hset H g .dead) (w.drew.freeze ⟨gb,0,none⟩ l.length) :=
            { size:=by rw[hfs];exact Nat.le_refl _,os:=hos,tape:=htp,output:=hot,len:=by rw[hset_length];exact Nat.le_refl _
              blk:=fun b _ hO=>hfz b fun e=>hO (.inr ⟨g,hgo,e▸gm⟩)
              xblk:=fun b hb=>hfz b fun e=>hi.xs g gb hgo gm (e▸hb)
              own:=fun b _ h=>(hown b h).1
              shape:=fun b c e h _ h2=>⟨c,e,(hfz b (hown b h2).2).trans h,rfl⟩
              mu:=fun o' ho' hg'=>⟨rfl,by
               have hne:o'≠g:=fun h=>by subst h;apply hg'; unfold isGr;rw[hgr];trivial
               unfold isGr at hg' ⊢; rw[hget_hset_other _ (Ne.symm hne)];exact hg'⟩
              gr:=fun o' ty' sz' xs' ho' h=>by
               have hne:o'≠g:=fun h'=>by subst h'; rw[hget_hset_self _ hgl] at h;cases h
               rw[hget_hset_other _ (Ne.symm hne)] at h;exact⟨xs',h,Nat.le_refl _,fun _=>rfl⟩ }
           refine⟨_,he,μ,hi.step hx2 g .dead (hget_hset_self _ hgl) (fun o' ho'=>hget_hset_other _ (Ne.symm ho')) (fun _ _=>rfl) (fun o' b ho' h1 h2=>hfz b fun e=>hi.inj o' g gb ho' h1 hgo (e▸h2) gm) trivial (fun b h1 _=>by unfold ownedO at h1;rw[hget_hset_self _ hgl] at h1;exact h1.elim),hx2,.d _ _ (.s l)⟩
     ·cases h
    ·cases h
   ·cases h
  ·cases h
 ·cases h
end
theorem SOkS:SOk Tryz.prog S:=by
 refine⟨fun f sf h=>?_,fun f df h=>?_,orc_ok,fun f g h=>?_⟩
 ·obtain⟨hs,fn,h1,h2,h3⟩:=tabF_ok _ (lookF_mem h)
  exact⟨fn,hs,h1,h2,by simpa using h3⟩
 ·obtain⟨hs,fn,h1,h2,h3⟩:=tabD_ok _ (lookF_mem h)
  exact⟨fn,hs,h1,h2,by simpa using h3⟩
 ·simp only[S,xF] at h
  split at h
  ·rename_i e;subst e;cases h
   exact⟨named_of (by kernel_rfl),fun _ _ _ args H r hr=>xItoa_ok args H r hr⟩
  ·split at h
   ·rename_i e;subst e;cases h
    exact⟨named_of (by kernel_rfl),fun _ _ _ args H r hr=>xIs_ok args H r hr⟩
   ·split at h
    ·rename_i e;subst e;cases h
     exact⟨named_of (by kernel_rfl),fun _ _ _ args H r hr=>xCopy_ok args H r hr⟩
    ·split at h
     ·rename_i e;subst e;cases h
      exact⟨named_of (by kernel_rfl),fun _ _ _ args H r hr=>xStr_ok args H r hr⟩
     ·cases h
end
section
open Go Num
noncomputable abbrev cS:CallF:=callI S
abbrev fnV (g:FuncId):V:=.d (.fn g [] [])
def noOrc (f:FuncId):Bool := !(f==175) && !(f==176) && !(f==177) && !(f==120)
theorem orcN {f:FuncId} (h:noOrc f=true) (a:List V):orcOf S f a=none:=by
 simp only[noOrc,Bool.and_eq_true,Bool.not_eq_true',beq_eq_false_iff_ne] at h
 obtain⟨⟨⟨h1,h2⟩,h3⟩,h4⟩:=h
 unfold orcOf
 split
 ·show orcF f _=none
  unfold orcF
  rw[if_neg h1,if_neg h2,if_neg h3,if_neg h4]
 ·rfl
theorem call_fn {f:FuncId}{sf:SF}{args:List V}{h:Hp} (h1:noOrc f=true) (h2:xF f=none) (h3:lookF tabF f=some sf) (h4:sf.dfr=none) :
 cS (.fn f) args h=outOf sf.res (evI cS sf.body none (enter args) h):=callI_F SX (orcN h1 args) h2 h3 h4
theorem callV_fn {keep:Bool}{g:FuncId}{first cap:List D}{args:List V}{h:Hp}{sf:SF} (h1:noOrc g=true) (h2:xF g=none) (h3:lookF tabF g=some sf) (h4:sf.dfr=none) :
 callV cS keep (.d (.fn g first cap)) args h=(match outOf sf.res (evI cS sf.body none (enter (first.map .d++args++cap.map .d)) h) with
  | some r=>fin keep h r
  | none=>none):=by
 rw[← call_fn h1 h2 h3 h4];rfl
theorem callV_fnV {keep:Bool}{g:FuncId}{first cap:List V}{args:List V}{h:Hp}{sf:SF} (h1:noOrc g=true) (h2:xF g=none) (h3:lookF tabF g=some sf) (h4:sf.dfr=none) :
 callV cS keep (.fn g first cap) args h=(match outOf sf.res (evI cS sf.body none (enter (first++args++cap)) h) with
  | some r=>fin keep h r
  | none=>none):=by
 rw[← call_fn h1 h2 h3 h4];rfl
theorem eget_eset (e:En) (t t':Nat) (v:V):eget (eset e t v) t'=if t'=t then v else eget e t':=by
 induction e with
 | nil=>simp[eset,eget]
 | cons p e ih =>
   obtain⟨k,x⟩:=p
   unfold eset
   by_cases h:t=k
   ·subst h;simp only[if_true,eget];split<;>rfl
   ·simp only[h,if_false,eget,ih]
    by_cases h2:t'=k
    ·subst h2;simp[Ne.symm h]
    ·simp[h2]
open Classical in
theorem fin_val {h h':Hp}{x:D}:fin false h (.ret (.d x),h')=if h.length≤h'.length∧HOk h h' then some (.val (.d x),trunc h.length h') else none:=by
 simp[fin,fz]
open Classical in
theorem fin_u {h h':Hp}{v:V}:fin false h (.ret v,h')=match fz h' h.length 8 v with
 | some x=>if h.length≤h'.length∧HOk h h' then some (.val (.d x),trunc h.length h') else none
 | none=>none:=by
 unfold fin;simp only[Bool.false_eq_true,if_false];rfl
theorem trunc_cons' {n:Nat}{x:Ob}{h:Hp} (hn:n≤h.length):trunc n (x::h)=trunc n h:=by
 rw[trunc,if_neg (by omega)]
theorem HOk.refl (h:Hp):HOk h h:=fun _ _ _ hg=>.inl hg
theorem HOk_cons' {h h':Hp}{x:Ob} (hl:h.length≤h'.length):HOk h (x::h')=HOk h h':=by
 apply propext
 constructor
 ·intro hh o ob ho hg
  exact hh o ob ho (by rw[hget_cons_lt' (by omega)];exact hg)
 ·intro hh o ob ho hg
  exact hh o ob ho (by rw[hget_cons_lt' (by omega)] at hg;exact hg)
where
 hget_cons_lt' {h:Hp}{x:Ob}{o:Nat} (hl:o<h.length):hget (x::h) o=hget h o:=by
  rw[hget,if_neg (by omega)]
theorem hset_len (h:Hp) (o:Nat) (x:Ob):(hset h o x).length=h.length:=by
 induction h with
 | nil=>rfl
 | cons y h ih=>unfold hset;split<;>simp[ih]
theorem ane2 (n:Nat):(n=n+1+1)=False:=by apply propext;simp;omega
theorem ble2 (n:Nat):(n≤n+1+1)=True:=by apply propext;simp;omega
theorem blt2 (n:Nat):(n<n+1+1)=True:=by apply propext;simp;omega
theorem cne2 (n:Nat):(n+1+1=n)=False:=by apply propext;simp;omega
theorem dle2 (n:Nat):(n+1+1≤n)=False:=by apply propext;simp;omega
theorem ane3 (n:Nat):(n=n+1+1+1)=False:=by apply propext;simp;omega
theorem ble3 (n:Nat):(n≤n+1+1+1)=True:=by apply propext;simp;omega
theorem blt3 (n:Nat):(n<n+1+1+1)=True:=by apply propext;simp;omega
theorem cne3 (n:Nat):(n+1+1+1=n)=False:=by apply propext;simp;omega
theorem dle3 (n:Nat):(n+1+1+1≤n)=False:=by apply propext;simp;omega
theorem ane4 (n:Nat):(n=n+1+1+1+1)=False:=by apply propext;simp;omega
theorem ble4 (n:Nat):(n≤n+1+1+1+1)=True:=by apply propext;simp;omega
theorem blt4 (n:Nat):(n<n+1+1+1+1)=True:=by apply propext;simp;omega
theorem cne4 (n:Nat):(n+1+1+1+1=n)=False:=by apply propext;simp;omega
theorem dle4 (n:Nat):(n+1+1+1+1≤n)=False:=by apply propext;simp;omega
theorem ane5 (n:Nat):(n=n+1+1+1+1+1)=False:=by apply propext;simp;omega
theorem ble5 (n:Nat):(n≤n+1+1+1+1+1)=True:=by apply propext;simp;omega
theorem blt5 (n:Nat):(n<n+1+1+1+1+1)=True:=by apply propext;simp;omega
theorem cne5 (n:Nat):(n+1+1+1+1+1=n)=False:=by apply propext;simp;omega
theorem dle5 (n:Nat):(n+1+1+1+1+1≤n)=False:=by apply propext;simp;omega
theorem ane6 (n:Nat):(n=n+1+1+1+1+1+1)=False:=by apply propext;simp;omega
theorem ble6 (n:Nat):(n≤n+1+1+1+1+1+1)=True:=by apply propext;simp;omega
theorem blt6 (n:Nat):(n<n+1+1+1+1+1+1)=True:=by apply propext;simp;omega
theorem cne6 (n:Nat):(n+1+1+1+1+1+1=n)=False:=by apply propext;simp;omega
theorem dle6 (n:Nat):(n+1+1+1+1+1+1≤n)=False:=by apply propext;simp;omega
theorem ane7 (n:Nat):(n=n+1+1+1+1+1+1+1)=False:=by apply propext;simp;omega
theorem ble7 (n:Nat):(n≤n+1+1+1+1+1+1+1)=True:=by apply propext;simp;omega
theorem blt7 (n:Nat):(n<n+1+1+1+1+1+1+1)=True:=by apply propext;simp;omega
theorem cne7 (n:Nat):(n+1+1+1+1+1+1+1=n)=False:=by apply propext;simp;omega
theorem dle7 (n:Nat):(n+1+1+1+1+1+1+1≤n)=False:=by apply propext;simp;omega
theorem ane8 (n:Nat):(n=n+1+1+1+1+1+1+1+1)=False:=by apply propext;simp;omega
theorem ble8 (n:Nat):(n≤n+1+1+1+1+1+1+1+1)=True:=by apply propext;simp;omega
theorem blt8 (n:Nat):(n<n+1+1+1+1+1+1+1+1)=True:=by apply propext;simp;omega
theorem cne8 (n:Nat):(n+1+1+1+1+1+1+1+1=n)=False:=by apply propext;simp;omega
theorem dle8 (n:Nat):(n+1+1+1+1+1+1+1+1≤n)=False:=by apply propext;simp;omega
theorem stays_none (c:CallF) (past:List DI) (e:En) (h:Hp):Stays c [] past e h=True:=by simp[Stays]
theorem stays_nil (c:CallF) (again:List Nat) (e:En) (h:Hp):Stays c again [] e h=True:=by simp[Stays]
theorem stays_cons (c:CallF) (again:List Nat) (p:DI) (past:List DI) (e:En) (h:Hp):Stays c again (p::past) e h=((p.idx∈again→∃ t,p.so.dst=some t∧evG c p.so e h=some (.val (eget e t),h))∧Stays c again past e h):=by simp[Stays]
theorem trT1 (H:Hp) (x0:Ob):trunc (H.length+1) (x0::H)=x0::H:=trunc_self (x0::H)
theorem trT2 (H:Hp) (x0 x1:Ob):trunc (H.length+1+1) (x0::x1::H)=x0::x1::H:=trunc_self (x0::x1::H)
theorem trT3 (H:Hp) (x0 x1 x2:Ob):trunc (H.length+1+1+1) (x0::x1::x2::H)=x0::x1::x2::H:=trunc_self (x0::x1::x2::H)
theorem trT4 (H:Hp) (x0 x1 x2 x3:Ob):trunc (H.length+1+1+1+1) (x0::x1::x2::x3::H)=x0::x1::x2::x3::H:=trunc_self (x0::x1::x2::x3::H)
theorem trT5 (H:Hp) (x0 x1 x2 x3 x4:Ob):trunc (H.length+1+1+1+1+1) (x0::x1::x2::x3::x4::H)=x0::x1::x2::x3::x4::H:=trunc_self (x0::x1::x2::x3::x4::H)
theorem trT6 (H:Hp) (x0 x1 x2 x3 x4 x5:Ob):trunc (H.length+1+1+1+1+1+1) (x0::x1::x2::x3::x4::x5::H)=x0::x1::x2::x3::x4::x5::H:=trunc_self (x0::x1::x2::x3::x4::x5::H)
theorem trT7 (H:Hp) (x0 x1 x2 x3 x4 x5 x6:Ob):trunc (H.length+1+1+1+1+1+1+1) (x0::x1::x2::x3::x4::x5::x6::H)=x0::x1::x2::x3::x4::x5::x6::H:=trunc_self (x0::x1::x2::x3::x4::x5::x6::H)
theorem trT8 (H:Hp) (x0 x1 x2 x3 x4 x5 x6 x7:Ob):trunc (H.length+1+1+1+1+1+1+1+1) (x0::x1::x2::x3::x4::x5::x6::x7::H)=x0::x1::x2::x3::x4::x5::x6::x7::H:=trunc_self (x0::x1::x2::x3::x4::x5::x6::x7::H)
def nI (n:Nat):D:=.i .i64 n
def nl (l:List Nat):D:=.ls (l.map nI)
theorem allN (l:List Nat):allCellsD 1 (l.map nI)=true:=by induction l<;>simp[allCellsD,nI,D.cells,scDs,scD, *]
theorem wr64 {n:Int} (h1:-9223372036854775808≤n) (h2:n<9223372036854775808):IntKind.i64.wrap n=n:=by
 unfold IntKind.wrap;simp[IntKind.bits,IntKind.signed];omega
theorem wr64n (n:Nat) (h2:n<9223372036854775808):IntKind.i64.wrap n=n:=wr64 (by omega) (by omega)
theorem at_ok (xs:List Nat) (i:Nat) (H:Hp):callV cS false (fnV 155) [.d (nl xs),.d (nI i)] H=some (.val (.d (nI (xs.getD i 0))),H):=by
 rw[callV_fn (sf:=c155) rfl rfl rfl rfl]
 have ha:=allN xs
 by_cases hi:i<xs.length
 ·simp[c155,b155,nl,evI_seq,evI_reg,evI_cond,evI_block,evI_ret,evI_skip,evI_exit,evI_draw,evOps,evG,wantsG,evOp,evD,kills,ok,okO,okD,put,eset,eget,aval,ekeep,keepR,thenR,blockR,binD,isShift,intBin,strBin,unD,vInt,takeAt,D.cells,V.cells,outOf,resOf,resV,resAll,enter,mkTup,mkAgg,mkFn,allD,hget,hset,fin_val,fin_u,fz,omap,trunc_cons',trunc_self,HOk.refl,HOk_cons',putCells,fillParts,scVs,scV,scDs,scD,zC,zN,eget_eset,cIf_pos,ane2,ble2,blt2,cne2,dle2,ane3,ble3,blt3,cne3,dle3,ane4,ble4,blt4,cne4,dle4,ane5,ble5,blt5,cne5,dle5,ane6,ble6,blt6,cne6,dle6,ane7,ble7,blt7,cne7,dle7,ane8,ble8,blt8,cne8,dle8,trT1,trT2,trT3,trT4,trT5,trT6,trT7,trT8,jpEx,putsE,stays_none,stays_nil,stays_cons,nI,hi,ha]
 ·have hx:xs[i]? = none:=by simp;omega
  simp[c155,b155,nl,evI_seq,evI_reg,evI_cond,evI_block,evI_ret,evI_skip,evI_exit,evI_draw,evOps,evG,wantsG,evOp,evD,kills,ok,okO,okD,put,eset,eget,aval,ekeep,keepR,thenR,blockR,binD,isShift,intBin,strBin,unD,vInt,takeAt,D.cells,V.cells,outOf,resOf,resV,resAll,enter,mkTup,mkAgg,mkFn,allD,hget,hset,fin_val,fin_u,fz,omap,trunc_cons',trunc_self,HOk.refl,HOk_cons',putCells,fillParts,scVs,scV,scDs,scD,zC,zN,eget_eset,cIf_pos,ane2,ble2,blt2,cne2,dle2,ane3,ble3,blt3,cne3,dle3,ane4,ble4,blt4,cne4,dle4,ane5,ble5,blt5,cne5,dle5,ane6,ble6,blt6,cne6,dle6,ane7,ble7,blt7,cne7,dle7,ane8,ble8,blt8,cne8,dle8,trT1,trT2,trT3,trT4,trT5,trT6,trT7,trT8,jpEx,putsE,stays_none,stays_nil,stays_cons,nI,hi,hx,ha]
@[simp] theorem fz_d (h:Hp) (n:Nat) (x:D):fz h n 8 (.d x)=some x:=by simp[fz]
attribute [simp] evI_seq evI_reg evI_cond evI_block evI_ret evI_skip evI_exit evI_draw evOps evG wantsG evOp evD kills ok okO okD aval ekeep keepR thenR blockR binD isShift intBin strBin unD vInt takeAt outOf resOf resV resAll enter mkTup mkAgg mkFn fin_val fin_u omap trunc_cons' trunc_self HOk.refl HOk_cons' putCells fillParts scVs scV scDs scD eget_eset cIf_pos ane2 ble2 blt2 cne2 dle2 ane3 ble3 blt3 cne3 dle3 ane4 ble4 blt4 cne4 dle4 ane5 ble5 blt5 cne5 dle5 ane6 ble6 blt6 cne6 dle6 ane7 ble7 blt7 cne7 dle7 ane8 ble8 blt8 cne8 dle8 trT1 trT2 trT3 trT4 trT5 trT6 trT7 trT8 jpEx putsE stays_none stays_nil stays_cons
end
section
open Go Num
def vl (l:List Nat):List V:=l.map fun n=>.d (nI n)
theorem vl_len (l:List Nat):(vl l).length=l.length:=by simp[vl]
theorem vl_append (l m:List Nat):vl (l++m)=vl l++vl m:=by simp[vl]
theorem allV (l:List Nat):allCells 1 (vl l)=true:=by induction l<;>simp[vl,allCells,nI,V.cells,D.cells,scVs,scV,scD] at * <;> assumption
theorem allD_vl (l:List Nat):allD (vl l)=some (l.map nI):=by induction l<;>simp[vl,allD] at * ; simp[*]
theorem omap_vl (h:Hp) (n k:Nat) (l:List Nat):omap (fz h n (k+1)) (vl l)=some (l.map nI):=by
 induction l with
 | nil=>rfl
 | cons a l ih=>simp only[vl,List.map_cons,omap,fz] at ih ⊢; rw[ih]
theorem fz_gr {h:Hp}{o n m ty sz:Nat}{l:List Nat} (hg:hget h o=some (.gr ty sz (vl l))) (hn:n≤o) (hm:l.length=m):fz h n 8 (.gr o m)=some (nl l):=by
 rw[fz,if_neg (by omega),hg]
 simp only[vl_len,hm,if_true,omap_vl,nl]
theorem loop_trim (H:Hp):∀ (k:Nat) (xs:List Nat),xs.length=k→xs.length<4611686018427387904→evI cS (.loop l149_0) none [(0,.d (nl xs))] H=some (.ex 0,[(0,.d (nl (trim xs))),(14,.d (.b false))],H):=by
 intro k
 induction k with
 | zero =>
   intro xs hk _
   have:xs=[]:=List.eq_nil_of_length_eq_zero hk
   subst this
   rw[evI_loop]
   simp[l149_0,nl,put,eset,eget,D.cells,V.cells,allD,hget,hset,fz,zC,zN,trim_nil]
 | succ k ih =>
   intro xs hk hl
   obtain⟨ys,x,rfl⟩:∃ ys x,xs=ys++[x]:=by
    rcases List.eq_nil_or_concat xs with h | ⟨ys,x,h⟩
    ·subst h;simp at hk
    ·exact⟨ys,x,by simpa using h⟩
   have hk':ys.length=k:=by simpa using hk
   have w1:=wr64n ys.length (by simp at hl;omega)
   have ha:=allN (ys++[x])
   have f1:(ys.length:Int)<ys.length+1:=by omega
   have f2:(0:Int)<(ys.length:Int)+1:=by omega
   have f3:(ys.length:Int)≤ys.length+1:=by omega
   rw[evI_loop]
   by_cases hx:x=0
   ·subst hx
    have:=ih ys hk' (by simp at hl;omega)
    simp only[List.map_append,List.map_cons,List.map_nil] at ha
    simp[l149_0,nl,nI,put,eset,eget,D.cells,V.cells,allD,hget,hset,fz,zC,zN,w1,ha,bounds,boundOf,trim_concat_zero,f1,f2,f3] at ha this ⊢
    simp[ha,this,put,eset,eget,D.cells,V.cells,allD,hget,hset,fz,zC,zN,w1,bounds,boundOf,f1,f2,f3]
   ·simp only[List.map_append,List.map_cons,List.map_nil] at ha
    simp[l149_0,nl,nI,put,eset,eget,D.cells,V.cells,allD,hget,hset,fz,zC,zN,w1,trim_concat_pos ys hx,f1,f2,f3,hx] at ha ⊢
    simp[ha,put,eset,eget,D.cells,V.cells,allD,hget,hset,fz,zC,zN,w1,bounds,boundOf,f1,f2,f3,hx]
theorem trimmed_ok (xs:List Nat) (hl:xs.length<4611686018427387904) (H:Hp):callV cS false (fnV 149) [.d (nl xs)] H=some (.val (.d (nl (trim xs))),H):=by
 rw[callV_fn (sf:=c149) rfl rfl rfl rfl]
 simp[c149,b149,put,eset,eget,D.cells,V.cells,allD,hget,hset,fz,zC,zN,loop_trim H _ xs rfl hl]
end
section
open Go Num
def foldL:List Int→Int→List Nat
 | [],c=>digs 10000 c.toNat
 | x::xs,c=>((x+c)%10000).toNat::foldL xs ((x+c)/10000)
def carryL:List Int→Int→Int
 | [],c=>c
 | x::xs,c=>carryL xs ((x+c)/10000)
def Over (H h:Hp):Prop:=H.length≤h.length∧∀ o,o<H.length→hget h o=hget H o
theorem Over.refl (H:Hp):Over H H:=⟨Nat.le_refl _,fun _ _=>rfl⟩
theorem Over.cons {H h:Hp}{x:Ob} (hh:Over H h):Over H (x::h):=⟨by have:=hh.1;simp;omega,fun o ho=>by
 have:=hh.1
 rw[hget,if_neg (by omega)];exact hh.2 o ho⟩
theorem Over.hset {H h:Hp}{o:Nat}{x:Ob} (hh:Over H h) (ho:H.length≤o):Over H (hset h o x):=⟨by rw[hset_len];exact hh.1,fun o' ho'=>by
 rw[hget_hset_ne (by omega)];exact hh.2 o' ho'⟩
where
 hget_hset_ne {h:Hp}{o o':Nat}{x:Ob} (hne:o≠o'):hget (Go.Proofs.YtmiioebapckcoaaGreatDoor.hset h o x) o'=hget h o':=by
  induction h with
  | nil=>rfl
  | cons y h ih =>
    unfold Go.Proofs.YtmiioebapckcoaaGreatDoor.hset
    split
    ·rename_i e;subst e;rw[hget,if_neg (Ne.symm hne),hget,if_neg (Ne.symm hne)]
    ·rw[hget,hget,hset_len]
     split
     ·rfl
     ·exact ih
theorem Over.trans {a b c:Hp} (h:Over a b) (k:Over b c):Over a c:=⟨Nat.le_trans h.1 k.1,fun o ho=>(k.2 o (Nat.lt_of_lt_of_le ho h.1)).trans (h.2 o ho)⟩
def FnAt (H:Hp) (f:V) (g:Nat→Int):Prop:=∀ h,Over H h→∀ i:Nat,i<1099511627776→callV cS false f [.d (.i .i64 i)] h=some (.val (.d (.i .i64 (g i))),h)
def fstate (n:Nat) (c:Int) (f:V) (o k i:Nat):En:=[(0,.d (.i .i64 n)),(1,.d (.i .i64 c)),(2,f),(7,.gr o k),(8,.d (.i .i64 i))]
theorem fold_step {H h:Hp} (hh:Over H h) {f:V}{g:Nat→Int} (hf:FnAt H f g) (n:Nat) (c:Int) (o i:Nat) (ds:List Nat) (hgo:hget h o=some (.gr 3 1 (vl ds))) (hlen:ds.length=i) (hi:i<1099511627776) (hgoon:i<n∨c≠0)
 (hb:-10000≤g i+c∧g i+c<4611686018427387904) (hn:n<1099511627776) :
 evI cS l153_0 none (fstate n c f o i i) h=some (.nor,fstate n ((g i+c)/10000) f o (i+1) (i+1),hset h o (.gr 3 1 (vl (ds++[((g i+c)%10000).toNat])))):=by
 have hcall:=hf h hh i hi
 have w1:IntKind.i64.wrap (g i+c)=g i+c:=wr64 (by omega) (by omega)
 have w2:IntKind.i64.wrap ((i:Int)+1)=(i:Int)+1:=wr64 (by omega) (by omega)
 have w3:IntKind.i64.wrap (g i+c+10000)=g i+c+10000:=wr64 (by omega) (by omega)
 have hxl:=vl_len ds
 have ha1:allCells 1 (vl ds)=true:=allV ds
 have bnd:((i:Nat)+1)*8≤140737488355328:=by omega
 have bnd2:i+1≤140737488355328:=by omega
 have hl1:(vl ds).length=i:=by rw[hxl,hlen]
 by_cases hn1:g i+c<0
 ·have e1:(g i+c)%10000=g i+c+10000:=by omega
  have e2:(g i+c)/10000=-1:=by omega
  have e3:((g i+c+10000).toNat:Int)=g i+c+10000:=by omega
  have q:¬ (0≤g i+c):=by omega
  by_cases hin:i<n
  ·have hin':(i:Int)<n:=by omega
   simp[l153_0,fstate,put,eset,eget,D.cells,V.cells,allD,hget,hset,fz,zC,zN,hin',hcall,w1,w2,w3,e1,e2,hn1,evApp,elemsOf,allCells,allCellsD,setParts,chunk1,notGr,hgo,hlen,hl1,bnd,bnd2,vl_append,vl,nI,e3]
  ·have hc0:c≠0:=by rcases hgoon with h | h;exact absurd h hin;exact h
   have hin':¬ (i:Int)<n:=by omega
   simp[l153_0,fstate,put,eset,eget,D.cells,V.cells,allD,hget,hset,fz,zC,zN,hin',hc0,hcall,w1,w2,w3,e1,e2,hn1,evApp,elemsOf,allCells,allCellsD,setParts,chunk1,notGr,hgo,hlen,hl1,bnd,bnd2,vl_append,vl,nI,e3]
 ·have e4:(((g i+c)%10000).toNat:Int)=(g i+c)%10000:=by omega
  by_cases hn2:10000≤g i+c
  ·have e1:(g i+c).tdiv 10000=(g i+c)/10000:=Int.tdiv_eq_ediv_of_nonneg (by omega)
   have e2:(g i+c).tmod 10000=(g i+c)%10000:=Int.tmod_eq_emod_of_nonneg (by omega)
   have w4:IntKind.i64.wrap ((g i+c)/10000)=(g i+c)/10000:=wr64 (by omega) (by omega)
   by_cases hin:i<n
   ·have hin':(i:Int)<n:=by omega
    simp[l153_0,fstate,put,eset,eget,D.cells,V.cells,allD,hget,hset,fz,zC,zN,hin',hcall,w1,w2,w4,e1,e2,hn1,hn2,evApp,elemsOf,allCells,allCellsD,setParts,chunk1,notGr,hgo,hlen,hl1,bnd,bnd2,vl_append,vl,nI,e4]
   ·have hc0:c≠0:=by rcases hgoon with h | h;exact absurd h hin;exact h
    have hin':¬ (i:Int)<n:=by omega
    simp[l153_0,fstate,put,eset,eget,D.cells,V.cells,allD,hget,hset,fz,zC,zN,hin',hc0,hcall,w1,w2,w4,e1,e2,hn1,hn2,evApp,elemsOf,allCells,allCellsD,setParts,chunk1,notGr,hgo,hlen,hl1,bnd,bnd2,vl_append,vl,nI,e4]
  ·have e1:(g i+c)/10000=0:=by omega
   have e2:(g i+c)%10000=g i+c:=by omega
   have e3:((g i+c).toNat:Int)=g i+c:=by omega
   by_cases hin:i<n
   ·have hin':(i:Int)<n:=by omega
    simp[l153_0,fstate,put,eset,eget,D.cells,V.cells,allD,hget,hset,fz,zC,zN,hin',hcall,w1,w2,e1,e2,e3,hn1,hn2,evApp,elemsOf,allCells,allCellsD,setParts,chunk1,notGr,hgo,hlen,hl1,bnd,bnd2,vl_append,vl,nI,e4]
   ·have hc0:c≠0:=by rcases hgoon with h | h;exact absurd h hin;exact h
    have hin':¬ (i:Int)<n:=by omega
    simp[l153_0,fstate,put,eset,eget,D.cells,V.cells,allD,hget,hset,fz,zC,zN,hin',hc0,hcall,w1,w2,e1,e2,e3,hn1,hn2,evApp,elemsOf,allCells,allCellsD,setParts,chunk1,notGr,hgo,hlen,hl1,bnd,bnd2,vl_append,vl,nI,e4]
theorem fold_stop {h:Hp}{f:V} (n o i k:Nat) (hi:¬ i<n) :
 evI cS l153_0 none (fstate n 0 f o k i) h=some (.ex 0,fstate n 0 f o k i++[(19,.d (.b false))],h):=by
 have hin':¬ (i:Int)<n:=by omega
 simp[l153_0,fstate,put,eset,eget,D.cells,V.cells,allD,hget,hset,fz,zC,zN,hin']
theorem hset_hset (h:Hp) (o:Nat) (x y:Ob):hset (hset h o x) o y=hset h o y:=by
 induction h with
 | nil=>rfl
 | cons z h ih =>
   by_cases e:o=h.length
   ·subst e;simp[hset]
   ·simp[hset,e,hset_len,ih]
theorem hset_self {h:Hp}{o:Nat}{x:Ob} (hg:hget h o=some x):hset h o x=h:=by
 induction h with
 | nil=>rfl
 | cons z h ih =>
   by_cases e:o=h.length
   ·subst e;simp[hget] at hg;subst hg;simp[hset]
   ·simp[hget,e] at hg;simp[hset,e,ih hg]
theorem hget_hset {h:Hp}{o:Nat}{x:Ob} (ho:o<h.length):hget (hset h o x) o=some x:=by
 induction h with
 | nil=>simp at ho
 | cons z h ih =>
   unfold hset
   split
   ·rename_i e;rw[hget,if_pos e]
   ·rename_i e;rw[hget,hset_len,if_neg e];exact ih (by simp at ho;omega)
theorem hget_lt':∀ {H:Hp}{o:Nat}{x:Ob},hget H o=some x→o<H.length
 | [],_,_,h=>by simp[hget] at h
 | y::H,o,x,h=>by
   unfold hget at h
   split at h
   ·rename_i e;subst e;simp
   ·have:=hget_lt' h;simp;omega
theorem fold_tail {H:Hp}{f:V}{g:Nat→Int} (hf:FnAt H f g) (n o:Nat) (ho:H.length≤o) (hn:n<1099511627776) (hz:∀ i,n≤i→g i=0):∀ (c:Nat) (h:Hp) (ds:List Nat),Over H h→hget h o=some (.gr 3 1 (vl ds))→n≤ds.length→ds.length+c<1099511627776 →
 ∃ e,evI cS (.loop l153_0) none (fstate n c f o ds.length ds.length) h=some (.ex 0,e,hset h o (.gr 3 1 (vl (ds++digs 10000 c))))∧eget e 7=.gr o (ds++digs 10000 c).length:=by
 intro c
 induction c using Nat.strongRecOn with
 | _ c ih =>
   intro h ds hh hgo hnd hb
   rw[evI_loop]
   by_cases hc:c=0
   ·subst hc
    rw[show ((0:Nat):Int)=0 by rfl,fold_stop n o ds.length ds.length (by omega)]
    rw[digs_zero,List.append_nil,hset_self hgo]
    exact⟨_,rfl,by simp[fstate,eget]⟩
   ·have hs:=fold_step hh hf n c o ds.length ds hgo rfl (by omega) (.inr (by omega)) (by rw[hz _ hnd];omega) hn
    rw[hz _ hnd,Int.zero_add] at hs
    rw[hs]
    have ho2:=hget_lt' hgo
    obtain⟨e,h1,h2⟩:=ih (c/10000) (by omega) (hset h o (.gr 3 1 (vl (ds++[c%10000])))) (ds++[c%10000]) (hh.hset ho) (hget_hset ho2) (by simp<;>omega) (by simp<;>omega)
    refine⟨e,?_,?_⟩
    ·simp only[thenR]
     have e1:((c:Int)/10000)=((c/10000:Nat):Int):=by omega
     have e2:((c:Int)%10000).toNat=c%10000:=by omega
     rw[e1,e2]
     simp only[List.length_append,List.length_singleton] at h1
     rw[h1,hset_hset,digs_pos (b:=10000) (n:=c) (by omega) (by omega)]
     simp
    ·rw[h2,digs_pos (b:=10000) (n:=c) (by omega) (by omega)];simp
theorem fold_loop {H:Hp}{f:V}{xs:List Int} (hf:FnAt H f fun i=>xs.getD i 0) (o:Nat) (ho:H.length≤o) (hn:xs.length≤10000000000) (hx:∀ x∈xs,-9999≤x∧x≤1000000000000):∀ (ys zs:List Int),xs=zs++ys→∀ (c:Int) (h:Hp) (ds:List Nat),-1≤c∧c≤1000000000000→Over H h→hget h o=some (.gr 3 1 (vl ds))→zs.length=ds.length→0≤carryL ys c →
 ∃ e,evI cS (.loop l153_0) none (fstate xs.length c f o ds.length ds.length) h=some (.ex 0,e,hset h o (.gr 3 1 (vl (ds++foldL ys c))))∧eget e 7=.gr o (ds++foldL ys c).length:=by
 intro ys
 induction ys with
 | nil =>
   intro zs hxs c h ds hc hh hgo hzl hcar
   simp only[carryL] at hcar
   have hlen:xs.length=ds.length:=by rw[hxs];simp[hzl]
   have:=fold_tail hf xs.length o ho (by omega) (fun i hi=>by simp[List.getD_eq_getElem?_getD,List.getElem?_eq_none hi]) c.toNat h ds hh hgo (by omega) (by omega)
   rw[show ((c.toNat:Nat):Int)=c by omega] at this
   exact this
 | cons y ys ih =>
   intro zs hxs c h ds hc hh hgo hzl hcar
   have hlen:ds.length<xs.length:=by rw[hxs];simp[hzl]
   have hy:xs.getD ds.length 0=y:=by
    rw[hxs,List.getD_eq_getElem?_getD,← hzl];simp
   have hb:=hx y (by rw[hxs];simp)
   have hs:=fold_step hh hf xs.length c o ds.length ds hgo rfl (by omega) (.inl hlen) (by rw[hy];omega) (by omega)
   rw[hy] at hs
   have ho2:=hget_lt' hgo
   rw[evI_loop,hs]
   obtain⟨e,h1,h2⟩:=ih (zs++[y]) (by rw[hxs];simp) ((y+c)/10000) (hset h o (.gr 3 1 (vl (ds++[((y+c)%10000).toNat])))) (ds++[((y+c)%10000).toNat]) (by omega) (hh.hset ho) (hget_hset ho2) (by simp[hzl]) hcar
   refine⟨e,?_,?_⟩
   ·simp only[thenR]
    simp only[List.length_append,List.length_singleton] at h1
    rw[h1,hset_hset]
    simp[foldL]
   ·rw[h2];simp[foldL]
theorem fold_ok {H:Hp}{f:V}{xs:List Int} (hf:FnAt H f fun i=>xs.getD i 0) (hn:xs.length≤10000000000) (hx:∀ x∈xs,-9999≤x∧x≤1000000000000) (hcar:0≤carryL xs 0) :
 callV cS false (fnV 153) [.d (.i .i64 xs.length),.d (.i .i64 0),f] H=some (.val (.d (nl (foldL xs 0))),H):=by
 rw[callV_fn (sf:=c153) rfl rfl rfl rfl]
 have w1:IntKind.i64.wrap ((xs.length:Int)+1)=(xs.length:Int)+1:=wr64 (by omega) (by omega)
 obtain⟨e,h1,h2⟩:=fold_loop hf H.length (Nat.le_refl _) hn hx xs [] rfl 0 (.gr 3 1 (vl [])::H) [] (by omega) (Over.refl H).cons (by simp[hget]) rfl hcar
 simp only[List.length_nil,List.nil_append] at h1 h2
 simp only[vl,List.map_nil,fstate] at h1
 rw[show ((0:Nat):Int)=0 from rfl] at h1
 have hb:((xs.length:Int)+1)*8≤140737488355328:=by omega
 have hb2:((xs.length:Int)+1)≤140737488355328:=by omega
 have hb3:(0:Int)≤(xs.length:Int)+1:=by omega
 have hr:evI cS b153 none (enter [.d (.i .i64 xs.length),.d (.i .i64 0),f]) H=some (.rt,[(6,.gr H.length (foldL xs 0).length)],.gr 3 1 (vl (foldL xs 0))::H):=by
  simp[b153,put,eset,eget,D.cells,V.cells,allD,hget,hset,fz,zC,zN,w1,hb,hb2,hb3,h1,h2,vl]
 simp only[List.map_nil,List.nil_append,List.append_nil,c153]
 rw[hr]
 simp only[outOf,resOf,resV,eget]
 simp[fin_u,fz_gr (ty:=3) (sz:=1) (l:=foldL xs 0) (show hget (.gr 3 1 (vl (foldL xs 0))::H) H.length=_ by simp[hget]) (Nat.le_refl _) rfl,HOk.refl,HOk_cons',trunc_cons',trunc_self]
end
end Go.Proofs.YtmiioebapckcoaaGreatDoor
