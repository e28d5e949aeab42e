/- Texts. -/
import Derived.Test.YtpfbbggmcbhboaaGreatDoorProg
import Derived.KernelRfl
import Derived.Laws.StructEq
import Derived.Laws.IdiomStrings
import Derived.MapKept
import Derived.Test.YtpfbbggmcbhboaaGreatDoorAAd
set_option linter.unusedVariables false
set_option linter.unusedSimpArgs false
section
namespace Go.Proofs.YtpfbbggmcbhboaaGreatDoor
open Go Go.W Tryz
theorem mixed : prog.follows .mixedOrders = true := n5
namespace F
abbrev iX : Nat := 3
theorem sO : prog.funcs[iX]? = some f3 := func3
abbrev aP : Nat := 4
theorem sN : prog.funcs[aP]? = some f4 := func4
theorem rK : Callable prog aP := y8 func4
abbrev M8 : Nat := 5
theorem az0 : prog.funcs[M8]? = some f5 := func5
theorem B4 : Callable prog M8 := y8 func5
abbrev mS : Nat := 6
theorem cq9 : prog.funcs[mS]? = some f6 := func6
theorem w8 : Callable prog mS := y8 func6
abbrev I8 : Nat := 7
theorem az2 : prog.funcs[I8]? = some f7 := func7
theorem J7 : Callable prog I8 := y8 func7
abbrev rJ : Nat := 8
theorem gj2 : prog.funcs[rJ]? = some f8 := func8
theorem D3 : Callable prog rJ := y8 func8
abbrev rI : Nat := 9
theorem gj1 : prog.funcs[rI]? = some f9 := func9
theorem K1 : Callable prog rI := y8 func9
abbrev uA : Nat := 10
theorem hj6 : prog.funcs[uA]? = some f10 := func10
theorem S7 : Callable prog uA := y8 func10
abbrev bA : Nat := 11
theorem cq4 : prog.funcs[bA]? = some f11 := func11
theorem pQ : Callable prog bA := y8 func11
abbrev mR : Nat := 12
theorem cq8 : prog.funcs[mR]? = some f12 := func12
theorem M1 : Callable prog mR := y8 func12
abbrev gN : Nat := 13
theorem xB : prog.funcs[gN]? = some f13 := func13
theorem iY : Callable prog gN := y8 func13
abbrev Z7 : Nat := 14
theorem ax8 : prog.funcs[Z7]? = some f14 := func14
theorem lX : Callable prog Z7 := y8 func14
abbrev W7 : Nat := 15
theorem cq3 : prog.funcs[W7]? = some f15 := func15
theorem gK : Callable prog W7 := y8 func15
abbrev kX : Nat := 16
theorem az4 : prog.funcs[kX]? = some f16 := func16
theorem X8 : Callable prog kX := y8 func16
abbrev S6 : Nat := 17
theorem ax7 : prog.funcs[S6]? = some f17 := func17
theorem dD : Callable prog S6 := y8 func17
abbrev gY : Nat := 18
theorem cq5 : prog.funcs[gY]? = some f18 := func18
theorem az1 : Callable prog gY := y8 func18
abbrev mT : Nat := 19
theorem cx0 : prog.funcs[mT]? = some f19 := func19
theorem I0 : Callable prog mT := y8 func19
abbrev dC : Nat := 20
theorem ax6 : prog.funcs[dC]? = some f20 := func20
theorem zH : Callable prog dC := y8 func20
abbrev Z8 : Nat := 21
theorem ax9 : prog.funcs[Z8]? = some f21 := func21
theorem lY : Callable prog Z8 := y8 func21
abbrev mU : Nat := 22
theorem cx2 : prog.funcs[mU]? = some f22 := func22
theorem aI : Callable prog mU := y8 func22
abbrev kW : Nat := 23
theorem az3 : prog.funcs[kW]? = some f23 := func23
theorem zJ : Callable prog kW := y8 func23
abbrev aZ : Nat := 24
theorem cq2 : prog.funcs[aZ]? = some f24 := func24
theorem pP : Callable prog aZ := y8 func24
abbrev dB : Nat := 25
theorem ax5 : prog.funcs[dB]? = some f25 := func25
theorem zG : Callable prog dB := y8 func25
abbrev aY : Nat := 26
theorem cq1 : prog.funcs[aY]? = some f26 := func26
theorem pO : Callable prog aY := y8 func26
abbrev bI : Nat := 27
theorem zI : prog.funcs[bI]? = some f27 := func27
theorem wZ : Callable prog bI := y8 func27
abbrev bT : Nat := 28
theorem tY : prog.funcs[bT]? = some f28 := func28
theorem dS : Callable prog bT := y8 func28
abbrev gJ : Nat := 29
theorem wX : prog.funcs[gJ]? = some f29 := func29
theorem Q9 : Callable prog gJ := y8 func29
abbrev mN : Nat := 30
theorem cj9 : prog.funcs[mN]? = some f30 := func30
theorem ax1 : Callable prog mN := y8 func30
abbrev aO : Nat := 31
theorem sL : prog.funcs[aO]? = some f31 := func31
theorem cZ : Callable prog aO := y8 func31
abbrev gI : Nat := 32
theorem wW : prog.funcs[gI]? = some f32 := func32
theorem vL : Callable prog gI := y8 func32
abbrev R9 : Nat := 33
theorem lH : prog.funcs[R9]? = some f33 := func33
theorem M7 : Callable prog R9 := y8 func33
abbrev mO : Nat := 34
theorem cq0 : prog.funcs[mO]? = some f34 := func34
theorem pL : Callable prog mO := y8 func34
abbrev iR : Nat := 35
theorem zB : prog.funcs[iR]? = some f35 := func35
theorem wR : Callable prog iR := y8 func35
abbrev kV : Nat := 36
theorem ax4 : prog.funcs[kV]? = some f36 := func36
theorem dA : Callable prog kV := y8 func36
abbrev bG : Nat := 37
theorem zA : prog.funcs[bG]? = some f37 := func37
theorem bS : Callable prog bG := y8 func37
abbrev aM : Nat := 38
theorem sJ : prog.funcs[aM]? = some f38 := func38
theorem V4 : Callable prog aM := y8 func38
abbrev kQ : Nat := 39
theorem ax0 : prog.funcs[kQ]? = some f39 := func39
theorem lV : Callable prog kQ := y8 func39
abbrev bP : Nat := 40
theorem tU : prog.funcs[bP]? = some f40 := func40
theorem sI : Callable prog bP := y8 func40
abbrev D8 : Nat := 41
theorem wY : prog.funcs[D8]? = some f41 := func41
theorem vN : Callable prog D8 := y8 func41
abbrev L4 : Nat := 42
theorem iG : prog.funcs[L4]? = some f42 := func42
theorem gH : Callable prog L4 := y8 func42
abbrev bQ : Nat := 43
theorem tV : prog.funcs[bQ]? = some f43 := func43
theorem N2 : Callable prog bQ := y8 func43
abbrev H8 : Nat := 44
theorem cW : prog.funcs[H8]? = some f44 := func44
theorem C1 : Callable prog H8 := y8 func44
abbrev iP : Nat := 45
theorem yY : prog.funcs[iP]? = some f45 := func45
theorem wQ : Callable prog iP := y8 func45
abbrev G8 : Nat := 46
theorem X6 : prog.funcs[G8]? = some f46 := func46
theorem W1 : Callable prog G8 := y8 func46
abbrev aN : Nat := 47
theorem H0 : prog.funcs[aN]? = some f47 := func47
theorem rG : Callable prog aN := y8 func47
abbrev Y9 : Nat := 48
theorem qY : prog.funcs[Y9]? = some f48 := func48
theorem pD : Callable prog Y9 := y8 func48
abbrev Y8 : Nat := 49
theorem qX : prog.funcs[Y8]? = some f49 := func49
theorem pC : Callable prog Y8 := y8 func49
abbrev kU : Nat := 50
theorem ax3 : prog.funcs[kU]? = some f50 := func50
theorem zE : Callable prog kU := y8 func50
abbrev vX : Nat := 51
theorem bF : prog.funcs[vX]? = some f51 := func51
theorem pJ : Callable prog vX := y8 func51
abbrev kT : Nat := 52
theorem Z6 : prog.funcs[kT]? = some f52 := func52
theorem dT : Callable prog kT := y8 func52
abbrev Z0 : Nat := 53
theorem qZ : prog.funcs[Z0]? = some f53 := func53
theorem pE : Callable prog Z0 := y8 func53
abbrev bH : Nat := 54
theorem zD : prog.funcs[bH]? = some f54 := func54
theorem V5 : Callable prog bH := y8 func54
abbrev Z5 : Nat := 55
theorem rH : prog.funcs[Z5]? = some f55 := func55
theorem S2 : Callable prog Z5 := y8 func55
abbrev kS : Nat := 56
theorem ax2 : prog.funcs[kS]? = some f56 := func56
theorem zC : Callable prog kS := y8 func56
abbrev C4 : Nat := 57
theorem pN : prog.funcs[C4]? = some f57 := func57
theorem mQ : Callable prog C4 := y8 func57
abbrev X7 : Nat := 58
theorem vH : prog.funcs[X7]? = some f58 := func58
theorem tX : Callable prog X7 := y8 func58
abbrev Q8 : Nat := 59
theorem sK : prog.funcs[Q8]? = some f59 := func59
theorem cY : Callable prog Q8 := y8 func59
abbrev S1 : Nat := 60
theorem lI : prog.funcs[S1]? = some f60 := func60
theorem kP : Callable prog S1 := y8 func60
abbrev Z2 : Nat := 61
theorem rD : prog.funcs[Z2]? = some f61 := func61
theorem pH : Callable prog Z2 := y8 func61
abbrev iS : Nat := 62
theorem zF : prog.funcs[iS]? = some f62 := func62
theorem wV : Callable prog iS := y8 func62
abbrev P7 : Nat := 63
theorem kN : prog.funcs[P7]? = some f63 := func63
theorem jI : Callable prog P7 := y8 func63
abbrev gL : Nat := 64
theorem xA : prog.funcs[gL]? = some f64 := func64
theorem vO : Callable prog gL := y8 func64
abbrev aT : Nat := 65
theorem sQ : prog.funcs[aT]? = some f65 := func65
theorem rL : Callable prog aT := y8 func65
abbrev B8 : Nat := 66
theorem R8 : prog.funcs[B8]? = some f66 := func66
theorem dK : Callable prog B8 := y8 func66
abbrev P8 : Nat := 67
theorem kY : prog.funcs[P8]? = some f67 := func67
theorem jK : Callable prog P8 := y8 func67
abbrev N3 : Nat := 68
theorem cD : prog.funcs[N3]? = some f68 := func68
theorem I5 : Callable prog N3 := y8 func68
abbrev bR : Nat := 69
theorem tW : prog.funcs[bR]? = some f69 := func69
theorem dR : Callable prog bR := y8 func69
abbrev Z4 : Nat := 70
theorem rF : prog.funcs[Z4]? = some f70 := func70
theorem pK : Callable prog Z4 := y8 func70
abbrev G1 : Nat := 71
theorem bD : prog.funcs[G1]? = some f71 := func71
theorem aR : Callable prog G1 := y8 func71
abbrev G0 : Nat := 72
theorem bC : prog.funcs[G0]? = some f72 := func72
theorem aQ : Callable prog G0 := y8 func72
abbrev S5 : Nat := 73
theorem wU : prog.funcs[S5]? = some f73 := func73
theorem vK : Callable prog S5 := y8 func73
abbrev S4 : Nat := 74
theorem wT : prog.funcs[S4]? = some f74 := func74
theorem vJ : Callable prog S4 := y8 func74
abbrev S3 : Nat := 75
theorem wS : prog.funcs[S3]? = some f75 := func75
theorem vI : Callable prog S3 := y8 func75
abbrev cj8 : Nat := 76
theorem lW : prog.funcs[cj8]? = some f76 := func76
abbrev mV : Nat := 77
theorem cx4 : prog.funcs[mV]? = some f77 := func77
theorem pR : Callable prog mV := y8 func77
abbrev bV : Nat := 78
theorem uB : prog.funcs[bV]? = some f78 := func78
theorem N4 : Callable prog bV := y8 func78
abbrev W9 : Nat := 79
theorem pG : prog.funcs[W9]? = some f79 := func79
theorem mM : Callable prog W9 := y8 func79
abbrev H1 : Nat := 80
theorem pM : prog.funcs[H1]? = some f80 := func80
theorem mP : Callable prog H1 := y8 func80
abbrev Z1 : Nat := 81
theorem rC : prog.funcs[Z1]? = some f81 := func81
theorem pF : Callable prog Z1 := y8 func81
abbrev H9 : Nat := 82
theorem cX : prog.funcs[H9]? = some f82 := func82
theorem cG : Callable prog H9 := y8 func82
abbrev gx3 : Nat := 83
abbrev aq9 : Nat := 84
abbrev cj7 : Nat := 85
abbrev bq6 : Nat := 86
abbrev uY : Nat := 87
abbrev zW : Nat := 88
abbrev dz9 : Nat := 89
abbrev bU : Nat := 91
theorem tZ : prog.funcs[bU]? = some f91 := func91
theorem sM : Callable prog bU := y8 func91
abbrev dH : Nat := 92
theorem vP : prog.funcs[dH]? = some f92 := func92
theorem iI : Callable prog dH := y8 func92
abbrev J0 : Nat := 94
theorem dM : prog.funcs[J0]? = some f94 := func94
theorem dF : Callable prog J0 := y8 func94
abbrev kL : Nat := 95
theorem aq8 : prog.funcs[kL]? = some f95 := func95
theorem lU : Callable prog kL := y8 func95
abbrev Y7 : Nat := 96
theorem qW : prog.funcs[Y7]? = some f96 := func96
theorem pB : Callable prog Y7 := y8 func96
abbrev Z3 : Nat := 97
theorem rE : prog.funcs[Z3]? = some f97 := func97
theorem pI : Callable prog Z3 := y8 func97
abbrev gP : Nat := 98
theorem xD : prog.funcs[gP]? = some f98 := func98
theorem iZ : Callable prog gP := y8 func98
abbrev X0 : Nat := 99
theorem pS : prog.funcs[X0]? = some f99 := func99
theorem mW : Callable prog X0 := y8 func99
abbrev gx2 : Nat := 100
abbrev zX : Nat := 103
abbrev iq0 : Nat := 104
abbrev N9 : Nat := 105
theorem jJ : prog.funcs[N9]? = some f105 := func105
theorem iT : Callable prog N9 := y8 func105
abbrev bq8 : Nat := 106
abbrev zN : Nat := 107
abbrev az5 : Nat := 108
abbrev L5 : Nat := 109
theorem iH : prog.funcs[L5]? = some f109 := func109
theorem gO : Callable prog L5 := y8 func109
abbrev E9 : Nat := 110
theorem bB : prog.funcs[E9]? = some f110 := func110
theorem K5 : Callable prog E9 := y8 func110
abbrev iO : Nat := 111
theorem yX : prog.funcs[iO]? = some f111 := func111
theorem kK : Callable prog iO := y8 func111
abbrev iQ : Nat := 112
theorem yZ : prog.funcs[iQ]? = some f112 := func112
theorem kM : Callable prog iQ := y8 func112
abbrev aS : Nat := 113
theorem sP : prog.funcs[aS]? = some f113 := func113
theorem dG : Callable prog aS := y8 func113
abbrev ij9 : Nat := 114
abbrev bq9 : Nat := 115
abbrev bx0 : Nat := 116
abbrev zL : Nat := 117
abbrev gj0 : Nat := 118
abbrev I9 : Nat := 119
theorem dL : prog.funcs[I9]? = some f119 := func119
theorem dE : Callable prog I9 := y8 func119
abbrev ij6 : Nat := 121
abbrev hj5 : Nat := 122
abbrev R7 : Nat := 123
theorem lG : prog.funcs[R7]? = some f123 := func123
theorem kJ : Callable prog R7 := y8 func123
abbrev P6 : Nat := 124
theorem kI : prog.funcs[P6]? = some f124 := func124
theorem jH : Callable prog P6 := y8 func124
abbrev N8 : Nat := 125
theorem jG : prog.funcs[N8]? = some f125 := func125
theorem iN : Callable prog N8 := y8 func125
abbrev dz8 : Nat := 126
abbrev dj1 : Nat := 127
abbrev P9 : Nat := 128
theorem kZ : prog.funcs[P9]? = some f128 := func128
theorem jL : Callable prog P9 := y8 func128
abbrev mj9 : Nat := 129
abbrev cq7 : Nat := 130
abbrev cq6 : Nat := 131
abbrev dj2 : Nat := 133
abbrev sC : Nat := 134
abbrev K0 : Nat := 135
theorem gG : prog.funcs[K0]? = some f135 := func135
theorem Q4 : Callable prog K0 := y8 func135
abbrev wP : Nat := 136
abbrev ij7 : Nat := 137
abbrev tT : Nat := 138
abbrev cx3 : Nat := 139
abbrev jq7 : Nat := 140
abbrev jz2 : Nat := 141
abbrev lj3 : Nat := 142
abbrev ij8 : Nat := 143
abbrev xC : Nat := 144
abbrev tS : Nat := 145
abbrev lj2 : Nat := 146
abbrev gx1 : Nat := 147
abbrev bx1 : Nat := 148
abbrev bq7 : Nat := 149
abbrev sz6 : Nat := 150
abbrev gx0 : Nat := 151
abbrev gx4 : Nat := 152
abbrev zK : Nat := 153
abbrev nj7 : Nat := 185
end F
namespace T
abbrev tj5 : Nat := 2
abbrev I6 : Nat := 3
theorem V7 : prog.underlying I6 = some (.int .i64) := underlying3
theorem J2 : Sz prog I6 1 := lE
theorem a9 : NoR prog I6 := ⟨_, underlying3, rfl⟩
abbrev U6 : Nat := 4
theorem nx0 : prog.underlying U6 = some (.bool) := underlying4
theorem jU : Sz prog U6 1 := lE
theorem cK : NoR prog U6 := ⟨_, underlying4, rfl⟩
abbrev kj2 : Nat := 5
theorem pZ : prog.underlying kj2 = some (.int .u8) := underlying5
theorem xM : Sz prog kj2 1 := lE
theorem qC : NoR prog kj2 := ⟨_, underlying5, rfl⟩
abbrev z3 : Nat := 9
theorem l7 : prog.underlying z3 = some (.string) := underlying9
theorem z2 : Sz prog z3 1 := lE
theorem j5 : NoR prog z3 := ⟨_, underlying9, rfl⟩
abbrev sz8 : Nat := 20
abbrev tj6 : Nat := 21
abbrev qE : Nat := 23
theorem O1 : Sz prog qE 1 := lE
theorem J5 : NoR prog qE := ⟨_, underlying23, rfl⟩
abbrev gR : Nat := 25
theorem r5 : prog.underlying gR = some (.slice 9) := underlying25
theorem U1 : Sz prog gR 1 := lE
theorem j1 : NoR prog gR := ⟨_, underlying25, rfl⟩
theorem jV : ElT prog gR 9 1 16 := ElT.of (z := (.string ⟨#[]⟩)) underlying25 n5 rfl (by decide)
abbrev C9 : Nat := 30
theorem c6 : Sz prog C9 3 := lE
theorem j0 : IsR prog C9 := ⟨_, underlying30, rfl⟩
abbrev D1 : Nat := 32
theorem l9 : prog.underlying D1 = some (.slice 30) := underlying32
theorem aj0 : Sz prog D1 1 := lE
theorem i6 : NoR prog D1 := ⟨_, underlying32, rfl⟩
theorem H4 : ElT prog D1 30 3 32 := ElT.of (z := (.agg #[(.int .i64 0), (.int .i64 0), (.string ⟨#[]⟩)])) underlying32 n5 rfl (by decide)
abbrev xO : Nat := 42
theorem L8 : prog.underlying xO = some (.slice 3) := underlying42
theorem dU : Sz prog xO 1 := lE
theorem aD : NoR prog xO := ⟨_, underlying42, rfl⟩
theorem qA : ElT prog xO 3 1 8 := ElT.of (z := (.int .i64 0)) underlying42 n5 rfl (by decide)
abbrev qx2 : Nat := 46
theorem G2 : prog.underlying qx2 = some (.slice 25) := underlying46
abbrev vQ : Nat := 48
theorem A6 : prog.underlying vQ = some (.slice 55) := underlying48
theorem aj2 : ElT prog vQ 55 2 24 := ElT.of (z := (.agg #[(.string ⟨#[]⟩), (.int .i64 0)])) underlying48 n5 rfl (by decide)
abbrev z6 : Nat := 55
theorem y4 : Sz prog z6 2 := lE
theorem O3 : IsR prog z6 := ⟨_, underlying55, rfl⟩
abbrev lJ : Nat := 57
theorem n8 : Sz prog lJ 2 := lE
theorem v5 : IsR prog lJ := ⟨_, underlying57, rfl⟩
abbrev gx9 : Nat := 58
theorem bx6 : prog.underlying gx9 = some (.slice 57) := underlying58
abbrev qj8 : Nat := 68
abbrev Q6 : Nat := 70
theorem G9 : prog.underlying Q6 = some (.map 3 25) := underlying70
theorem B6 : Sz prog Q6 1 := lE
theorem E2 : NoR prog Q6 := ⟨_, underlying70, rfl⟩
abbrev qH : Nat := 71
theorem C2 : prog.underlying qH = some (.array 2 70) := underlying71
abbrev Q5 : Nat := 72
theorem dO : prog.underlying Q5 = some (.map 3 30) := underlying72
theorem G3 : Sz prog Q5 1 := lE
theorem P4 : NoR prog Q5 := ⟨_, underlying72, rfl⟩
abbrev qG : Nat := 73
theorem I2 : prog.underlying qG = some (.array 2 72) := underlying73
abbrev y7 : Nat := 75
abbrev xN : Nat := 85
theorem z4 : prog.underlying xN = some (.map 9 3) := underlying85
abbrev qF : Nat := 89
theorem A5 : prog.underlying qF = some (.slice 5) := underlying89
theorem gx6 : Sz prog qF 1 := lE
theorem V8 : NoR prog qF := ⟨_, underlying89, rfl⟩
abbrev bj9 : Nat := 90
abbrev iE : Nat := 91
theorem nD : Sz prog iE 1 := lE
theorem N7 : NoR prog iE := ⟨_, underlying91, rfl⟩
abbrev vZ : Nat := 93
abbrev tj7 : Nat := 96
abbrev mz1 : Nat := 101
abbrev sz3 : Nat := 103
abbrev rR : Nat := 105
abbrev nx4 : Nat := 109
abbrev cJ : Nat := 111
abbrev Y1 : Nat := 112
theorem z1 : prog.underlying Y1 = some (.map 3 114) := underlying112
abbrev aj1 : Nat := 114
abbrev nx2 : Nat := 115
abbrev J3 : Nat := 119
theorem N6 : prog.underlying J3 = some (.map 123 122) := underlying119
theorem jT : Sz prog J3 1 := lE
theorem p7 : NoR prog J3 := ⟨_, underlying119, rfl⟩
abbrev M2 : Nat := 120
theorem iA : Sz prog M2 1 := lE
theorem l5 : NoR prog M2 := ⟨_, underlying120, rfl⟩
abbrev u4 : Nat := 122
theorem j7 : Sz prog u4 2 := lE
theorem k7 : IsR prog u4 := ⟨_, underlying122, rfl⟩
abbrev G6 : Nat := 123
theorem kj1 : prog.underlying G6 = some (.array 2 3) := underlying123
theorem I3 : Sz prog G6 2 := lE
theorem I4 : IsR prog G6 := ⟨_, underlying123, rfl⟩
abbrev rW : Nat := 125
theorem X1 : prog.underlying rW = some (.slice 122) := underlying125
theorem M3 : ElT prog rW 122 2 32 := ElT.of (z := (.agg #[(.int .i64 0), (.slice none 0 0)])) underlying125 n5 rfl (by decide)
abbrev xH : Nat := 128
abbrev bJ : Nat := 129
theorem sD : Sz prog bJ 1 := lE
theorem v9 : NoR prog bJ := ⟨_, underlying129, rfl⟩
abbrev sz7 : Nat := 135
theorem nq9 : prog.underlying sz7 = some (.int .u64) := underlying135
abbrev lx3 : Nat := 137
abbrev dj7 : Nat := 138
abbrev A8 : Nat := 143
theorem iB : Sz prog A8 1 := lE
theorem K7 : NoR prog A8 := ⟨_, underlying143, rfl⟩
abbrev bq0 : Nat := 147
abbrev kj3 : Nat := 150
abbrev tj4 : Nat := 157
abbrev tj3 : Nat := 159
theorem qx1 : prog.underlying tj3 = some (.int .u64) := underlying159
abbrev lx0 : Nat := 171
abbrev tj8 : Nat := 175
abbrev tj2 : Nat := 177
abbrev sz5 : Nat := 188
abbrev sz9 : Nat := 189
abbrev G5 : Nat := 192
theorem dN : prog.underlying G5 = some (.array 256 4) := underlying192
theorem K6 : Sz prog G5 256 := lE
theorem bX : IsR prog G5 := ⟨_, underlying192, rfl⟩
abbrev jz0 : Nat := 196
abbrev nx1 : Nat := 201
abbrev jz1 : Nat := 204
abbrev tj1 : Nat := 207
abbrev tj0 : Nat := 208
abbrev lq6 : Nat := 216
abbrev sz4 : Nat := 218
abbrev lq5 : Nat := 220
abbrev hq8 : Nat := 221
abbrev hq7 : Nat := 224
abbrev jx9 : Nat := 226
theorem j9 (p : Addr) (w : World) : (Instr.fieldAt 30 (.pointer (some p)) 0).run prog w = .ok (.pointer (some (p.add 0))) w := n5
theorem i8 (p : Addr) (w : World) : (Instr.fieldAt 30 (.pointer (some p)) 1).run prog w = .ok (.pointer (some (p.add 1))) w := n5
theorem q7 (p : Addr) (w : World) : (Instr.fieldAt 30 (.pointer (some p)) 2).run prog w = .ok (.pointer (some (p.add 2))) w := n5
theorem aC (p : Addr) (w : World) : (Instr.fieldAt 55 (.pointer (some p)) 0).run prog w = .ok (.pointer (some (p.add 0))) w := n5
theorem H3 (p : Addr) (w : World) : (Instr.fieldAt 75 (.pointer (some p)) 0).run prog w = .ok (.pointer (some (p.add 0))) w := n5
theorem U2 (p : Addr) (w : World) : (Instr.fieldAt 75 (.pointer (some p)) 1).run prog w = .ok (.pointer (some (p.add 2))) w := n5
theorem J4 (p : Addr) (w : World) : (Instr.fieldAt 93 (.pointer (some p)) 0).run prog w = .ok (.pointer (some (p.add 0))) w := n5
theorem C5 (p : Addr) (w : World) : (Instr.fieldAt 93 (.pointer (some p)) 1).run prog w = .ok (.pointer (some (p.add 1))) w := n5
theorem H2 (p : Addr) (w : World) : (Instr.fieldAt 103 (.pointer (some p)) 0).run prog w = .ok (.pointer (some (p.add 0))) w := n5
theorem n4 (p : Addr) (w : World) : (Instr.fieldAt 103 (.pointer (some p)) 1).run prog w = .ok (.pointer (some (p.add 1))) w := n5
theorem p6 (p : Addr) (w : World) : (Instr.fieldAt 105 (.pointer (some p)) 0).run prog w = .ok (.pointer (some (p.add 0))) w := n5
theorem B5 (p : Addr) (w : World) : (Instr.fieldAt 105 (.pointer (some p)) 1).run prog w = .ok (.pointer (some (p.add 2))) w := n5
theorem s8 (p : Addr) (w : World) : (Instr.fieldAt 111 (.pointer (some p)) 0).run prog w = .ok (.pointer (some (p.add 0))) w := n5
theorem s7 (p : Addr) (w : World) : (Instr.fieldAt 111 (.pointer (some p)) 1).run prog w = .ok (.pointer (some (p.add 1))) w := n5
theorem A3 (p : Addr) (w : World) : (Instr.fieldAt 122 (.pointer (some p)) 0).run prog w = .ok (.pointer (some (p.add 0))) w := n5
theorem z9 (p : Addr) (w : World) : (Instr.fieldAt 122 (.pointer (some p)) 1).run prog w = .ok (.pointer (some (p.add 1))) w := n5
theorem xP (x1 : Value) (x2 : Value) (w : World) : (Instr.field 122 (.agg #[x1, x2]) 1).run prog w = .ok x2 w := n5
theorem nx3 (w : World) : (Instr.alloc 3 true (.tuple #[])).run prog w = .ok (.pointer (some ⟨w.heap.size, 0, none⟩)) (w.alloc (.cells #[(.int .i64 0)] 3 (0, 0))) := n5
theorem lx2 (w : World) : (Instr.alloc 4 true (.tuple #[])).run prog w = .ok (.pointer (some ⟨w.heap.size, 0, none⟩)) (w.alloc (.cells #[(.bool false)] 4 (0, 0))) := n5
theorem bz3 (w : World) : (Instr.alloc 23 true (.tuple #[])).run prog w = .ok (.pointer (some ⟨w.heap.size, 0, none⟩)) (w.alloc (.cells #[(.int .i64 0)] 23 (0, 0))) := n5
theorem r7 (w : World) : (Instr.alloc 30 true (.tuple #[])).run prog w = .ok (.pointer (some ⟨w.heap.size, 0, none⟩)) (w.alloc (.cells #[(.int .i64 0), (.int .i64 0), (.string ⟨#[]⟩)] 30 (0, 0))) := n5
theorem lx1 (w : World) : (Instr.alloc 42 true (.tuple #[])).run prog w = .ok (.pointer (some ⟨w.heap.size, 0, none⟩)) (w.alloc (.cells #[(.slice none 0 0)] 42 (0, 0))) := n5
theorem jZ (w : World) : (Instr.alloc 57 true (.tuple #[])).run prog w = .ok (.pointer (some ⟨w.heap.size, 0, none⟩)) (w.alloc (.cells #[(.int .i64 0), (.int .i64 0)] 57 (0, 0))) := n5
theorem sE (w : World) : (Instr.alloc 93 true (.tuple #[])).run prog w = .ok (.pointer (some ⟨w.heap.size, 0, none⟩)) (w.alloc (.cells #[(.pointer none), (.slice none 0 0)] 93 (0, 0))) := n5
theorem jY (w : World) : (Instr.alloc 119 true (.tuple #[])).run prog w = .ok (.pointer (some ⟨w.heap.size, 0, none⟩)) (w.alloc (.cells #[(.map none)] 119 (0, 0))) := n5
theorem iC (w : World) : (Instr.alloc 120 true (.tuple #[])).run prog w = .ok (.pointer (some ⟨w.heap.size, 0, none⟩)) (w.alloc (.cells #[.nilFunc] 120 (0, 0))) := n5
theorem H5 (w : World) : (Instr.alloc 122 true (.tuple #[])).run prog w = .ok (.pointer (some ⟨w.heap.size, 0, none⟩)) (w.alloc (.cells #[(.int .i64 0), (.slice none 0 0)] 122 (0, 0))) := n5
theorem ix4 (w : World) : (Instr.alloc 123 true (.tuple #[])).run prog w = .ok (.pointer (some ⟨w.heap.size, 0, none⟩)) (w.alloc (.cells #[(.int .i64 0), (.int .i64 0)] 123 (0, 0))) := n5
theorem sF (w : World) : (Instr.alloc 129 true (.tuple #[])).run prog w = .ok (.pointer (some ⟨w.heap.size, 0, none⟩)) (w.alloc (.cells #[.nilFunc] 129 (0, 0))) := n5
theorem iD (w : World) : (Instr.alloc 143 true (.tuple #[])).run prog w = .ok (.pointer (some ⟨w.heap.size, 0, none⟩)) (w.alloc (.cells #[(.chan none)] 143 (0, 0))) := n5
theorem cN (w : World) : (Instr.alloc 192 true (.tuple #[])).run prog w = .ok (.pointer (some ⟨w.heap.size, 0, none⟩)) (w.alloc (.cells (Array.replicate 256 (.bool false)) 192 (0, 0))) := n5
theorem aj3 (x1 : Int) (w : World) : (Instr.build 30 #[(0, (.int .i64 x1))]).run prog w = .ok (.agg #[(.int .i64 x1), (.int .i64 0), (.string ⟨#[]⟩)]) w := n5
theorem jX (x1 : Int) (x2 : Int) (w : World) : (Instr.build 30 #[(0, (.int .i64 x1)), (1, (.int .i64 x2))]).run prog w = .ok (.agg #[(.int .i64 x1), (.int .i64 x2), (.string ⟨#[]⟩)]) w := n5
theorem E6 (x1 : Int) (x2 : Int) (x3 : ByteArray) (w : World) : (Instr.build 30 #[(0, (.int .i64 x1)), (1, (.int .i64 x2)), (2, (.string x3))]).run prog w = .ok (.agg #[(.int .i64 x1), (.int .i64 x2), (.string x3)]) w := n5
theorem U7 (x1 : ByteArray) (x2 : Int) (w : World) : (Instr.build 55 #[(0, (.string x1)), (1, (.int .i64 x2))]).run prog w = .ok (.agg #[(.string x1), (.int .i64 x2)]) w := n5
theorem O4  (w : World) : (Instr.build 57 #[]).run prog w = .ok (.agg #[(.int .i64 0), (.int .i64 0)]) w := n5
theorem E5 (x1 : Int) (x2 : Int) (w : World) : (Instr.build 57 #[(0, (.int .i64 x1)), (1, (.int .i64 x2))]).run prog w = .ok (.agg #[(.int .i64 x1), (.int .i64 x2)]) w := n5
theorem xR  (w : World) : (Instr.build 75 #[]).run prog w = .ok (.agg #[(.map none), (.map none), (.map none), (.map none)]) w := n5
theorem wD (x1 : ByteArray) (w : World) : (Instr.build 103 #[(0, (.string x1))]).run prog w = .ok (.agg #[(.string x1), (.int .i64 0)]) w := n5
theorem sW (x1 : ByteArray) (x2 : Int) (w : World) : (Instr.build 105 #[(0, (.agg #[(.string x1), (.int .i64 x2)]))]).run prog w = .ok (.agg #[(.string x1), (.int .i64 x2), (.slice none 0 0)]) w := n5
theorem wF  (w : World) : (Instr.build 111 #[]).run prog w = .ok (.agg #[(.slice none 0 0), (.int .i64 0)]) w := n5
theorem xQ  (w : World) : (Instr.build 122 #[]).run prog w = .ok (.agg #[(.int .i64 0), (.slice none 0 0)]) w := n5
theorem sX (x1 : Int) (x2 : Option Addr) (x3 : Nat) (x4 : Nat) (w : World) : (Instr.build 122 #[(0, (.int .i64 x1)), (1, (.slice x2 x3 x4))]).run prog w = .ok (.agg #[(.int .i64 x1), (.slice x2 x3 x4)]) w := n5
theorem aj4 (x1 : Int) (x2 : Int) (w : World) : (Instr.build 123 #[(0, (.int .i64 x1)), (1, (.int .i64 x2))]).run prog w = .ok (.agg #[(.int .i64 x1), (.int .i64 x2)]) w := n5
theorem U4 (x1 : ByteArray) (w : World) : (Instr.buildSlice 25 1 #[(0, (.string x1))]).run prog w = .ok (.slice (some ⟨w.heap.size, 0, none⟩) 1 1) (w.alloc (.cells #[(.string x1)] 9 (0, 0))) := n5
theorem U3 (x1 : ByteArray) (x2 : ByteArray) (w : World) : (Instr.buildSlice 25 2 #[(0, (.string x1)), (1, (.string x2))]).run prog w = .ok (.slice (some ⟨w.heap.size, 0, none⟩) 2 2) (w.alloc (.cells #[(.string x1), (.string x2)] 9 (0, 0))) := n5
theorem aE (x1 : ByteArray) (x2 : ByteArray) (x3 : ByteArray) (w : World) : (Instr.buildSlice 25 3 #[(0, (.string x1)), (1, (.string x2)), (2, (.string x3))]).run prog w = .ok (.slice (some ⟨w.heap.size, 0, none⟩) 3 3) (w.alloc (.cells #[(.string x1), (.string x2), (.string x3)] 9 (0, 0))) := n5
theorem qD (x1 : ByteArray) (x2 : ByteArray) (x3 : ByteArray) (x4 : ByteArray) (w : World) : (Instr.buildSlice 25 4 #[(0, (.string x1)), (1, (.string x2)), (2, (.string x3)), (3, (.string x4))]).run prog w = .ok (.slice (some ⟨w.heap.size, 0, none⟩) 4 4) (w.alloc (.cells #[(.string x1), (.string x2), (.string x3), (.string x4)] 9 (0, 0))) := n5
theorem r8 (x1 : Int) (x2 : Int) (x3 : ByteArray) (w : World) : (Instr.buildSlice 32 1 #[(0, (.agg #[(.int .i64 x1), (.int .i64 x2), (.string x3)]))]).run prog w = .ok (.slice (some ⟨w.heap.size, 0, none⟩) 1 1) (w.alloc (.cells #[(.int .i64 x1), (.int .i64 x2), (.string x3)] 30 (0, 0))) := n5
theorem U5 (x1 : Int) (x2 : Int) (x3 : ByteArray) (x4 : Int) (x5 : Int) (x6 : ByteArray) (w : World) : (Instr.buildSlice 32 2 #[(0, (.agg #[(.int .i64 x1), (.int .i64 x2), (.string x3)])), (1, (.agg #[(.int .i64 x4), (.int .i64 x5), (.string x6)]))]).run prog w = .ok (.slice (some ⟨w.heap.size, 0, none⟩) 2 2) (w.alloc (.cells #[(.int .i64 x1), (.int .i64 x2), (.string x3), (.int .i64 x4), (.int .i64 x5), (.string x6)] 30 (0, 0))) := n5
theorem jW (x1 : Int) (x2 : Int) (x3 : ByteArray) (x4 : Int) (x5 : Int) (x6 : ByteArray) (x7 : Int) (x8 : Int) (x9 : ByteArray) (w : World) : (Instr.buildSlice 32 3 #[(0, (.agg #[(.int .i64 x1), (.int .i64 x2), (.string x3)])), (1, (.agg #[(.int .i64 x4), (.int .i64 x5), (.string x6)])), (2, (.agg #[(.int .i64 x7), (.int .i64 x8), (.string x9)]))]).run prog w = .ok (.slice (some ⟨w.heap.size, 0, none⟩) 3 3) (w.alloc (.cells #[(.int .i64 x1), (.int .i64 x2), (.string x3), (.int .i64 x4), (.int .i64 x5), (.string x6), (.int .i64 x7), (.int .i64 x8), (.string x9)] 30 (0, 0))) := n5
theorem ix3  (w : World) : (Instr.buildSlice 42 0 #[]).run prog w = .ok (.slice (some ⟨w.heap.size, 0, none⟩) 0 0) (w.alloc (.cells #[] 3 (0, 0))) := n5
theorem jB (x1 : Int) (w : World) : (Instr.buildSlice 42 1 #[(0, (.int .i64 x1))]).run prog w = .ok (.slice (some ⟨w.heap.size, 0, none⟩) 1 1) (w.alloc (.cells #[(.int .i64 x1)] 3 (0, 0))) := n5
theorem cM (x1 : Int) (x2 : Int) (x3 : Int) (w : World) : (Instr.buildSlice 42 3 #[(0, (.int .i64 x1)), (1, (.int .i64 x2)), (2, (.int .i64 x3))]).run prog w = .ok (.slice (some ⟨w.heap.size, 0, none⟩) 3 3) (w.alloc (.cells #[(.int .i64 x1), (.int .i64 x2), (.int .i64 x3)] 3 (0, 0))) := n5
theorem gx8 (x1 : Option Addr) (x2 : Nat) (x3 : Nat) (x4 : Option Addr) (x5 : Nat) (x6 : Nat) (w : World) : (Instr.buildSlice 46 2 #[(0, (.slice x1 x2 x3)), (1, (.slice x4 x5 x6))]).run prog w = .ok (.slice (some ⟨w.heap.size, 0, none⟩) 2 2) (w.alloc (.cells #[(.slice x1 x2 x3), (.slice x4 x5 x6)] 25 (0, 0))) := n5
theorem gx7 (x1 : Option Addr) (x2 : Nat) (x3 : Nat) (x4 : Option Addr) (x5 : Nat) (x6 : Nat) (x7 : Option Addr) (x8 : Nat) (x9 : Nat) (w : World) : (Instr.buildSlice 46 3 #[(0, (.slice x1 x2 x3)), (1, (.slice x4 x5 x6)), (2, (.slice x7 x8 x9))]).run prog w = .ok (.slice (some ⟨w.heap.size, 0, none⟩) 3 3) (w.alloc (.cells #[(.slice x1 x2 x3), (.slice x4 x5 x6), (.slice x7 x8 x9)] 25 (0, 0))) := n5
theorem wB (x1 : ByteArray) (x2 : Int) (w : World) : (Instr.buildSlice 48 1 #[(0, (.agg #[(.string x1), (.int .i64 x2)]))]).run prog w = .ok (.slice (some ⟨w.heap.size, 0, none⟩) 1 1) (w.alloc (.cells #[(.string x1), (.int .i64 x2)] 55 (0, 0))) := n5
theorem wA (x1 : ByteArray) (x2 : Int) (x3 : ByteArray) (x4 : Int) (x5 : ByteArray) (x6 : Int) (w : World) : (Instr.buildSlice 48 3 #[(0, (.agg #[(.string x1), (.int .i64 x2)])), (1, (.agg #[(.string x3), (.int .i64 x4)])), (2, (.agg #[(.string x5), (.int .i64 x6)]))]).run prog w = .ok (.slice (some ⟨w.heap.size, 0, none⟩) 3 3) (w.alloc (.cells #[(.string x1), (.int .i64 x2), (.string x3), (.int .i64 x4), (.string x5), (.int .i64 x6)] 55 (0, 0))) := n5
theorem wC (x1 : Int) (x2 : Int) (x3 : Int) (x4 : Int) (x5 : Int) (x6 : Int) (w : World) : (Instr.buildSlice 58 3 #[(0, (.agg #[(.int .i64 x1), (.int .i64 x2)])), (1, (.agg #[(.int .i64 x3), (.int .i64 x4)])), (2, (.agg #[(.int .i64 x5), (.int .i64 x6)]))]).run prog w = .ok (.slice (some ⟨w.heap.size, 0, none⟩) 3 3) (w.alloc (.cells #[(.int .i64 x1), (.int .i64 x2), (.int .i64 x3), (.int .i64 x4), (.int .i64 x5), (.int .i64 x6)] 57 (0, 0))) := n5
theorem I7 (x1 : Int) (x2 : Option Addr) (x3 : Nat) (x4 : Nat) (w : World) : (Instr.buildSlice 125 1 #[(0, (.agg #[(.int .i64 x1), (.slice x2 x3 x4)]))]).run prog w = .ok (.slice (some ⟨w.heap.size, 0, none⟩) 1 1) (w.alloc (.cells #[(.int .i64 x1), (.slice x2 x3 x4)] 122 (0, 0))) := n5
theorem bz1 (a0 b0 : Int) (a1 b1 : Int) (a2 b2 : Str) (w : World) : (Op.equalIn 10000 30 (.agg #[.int .i64 a0, .int .i64 a1, .string ⟨(a2 : Str).toArray⟩]) (.agg #[.int .i64 b0, .int .i64 b1, .string ⟨(b2 : Str).toArray⟩])).run prog w = .ok (decide ((a0, a1, a2) = (b0, b1, b2))) w := by
  rw [run_equalIn_agg w 9999 30 _ _ (by simp only [Program.fieldsOf, underlying30]) n5]; simp only [Program.fieldsOf, underlying30]
  by_cases h0 : a0 = b0 <;> by_cases h1 : a1 = b1 <;> by_cases h2 : a2 = b2 <;>
    simp [Op.eqFields, part, isAgg, run_equalIn_int _ 9998 3 .i64 .i64 _ _ underlying3, run_equalIn_string _ 9998 9 _ _ underlying9, run_underlying underlying3, run_underlying underlying9, h0, h1, h2]
theorem rS (a0 b0 : Int) (a1 b1 : Int) (a2 b2 : Str) (w : World) : (binOp .neq 30 (.agg #[.int .i64 a0, .int .i64 a1, .string ⟨(a2 : Str).toArray⟩]) (.agg #[.int .i64 b0, .int .i64 b1, .string ⟨(b2 : Str).toArray⟩])).run prog w = .ok (.bool (decide (¬ (a0, a1, a2) = (b0, b1, b2)))) w := by rw [run_neq_struct, bz1, decide_not]; rfl
theorem rU (op : BinOp) (x y : Operand) (xs ys : Array Value) (w : World) : (eqGuard op 30 x y (.agg xs) (.agg ys)).run prog w = .ok () w := run_eqGuard_agg w op 30 x y xs ys n5
theorem bz0 (a0 b0 : Str) (a1 b1 : Int) (w : World) : (Op.equalIn 10000 55 (.agg #[.string ⟨(a0 : Str).toArray⟩, .int .i64 a1]) (.agg #[.string ⟨(b0 : Str).toArray⟩, .int .i64 b1])).run prog w = .ok (decide ((a0, a1) = (b0, b1))) w := by
  rw [run_equalIn_agg w 9999 55 _ _ (by simp only [Program.fieldsOf, underlying55]) n5]; simp only [Program.fieldsOf, underlying55]
  by_cases h0 : a0 = b0 <;> by_cases h1 : a1 = b1 <;>
    simp [Op.eqFields, part, isAgg, run_equalIn_int _ 9998 3 .i64 .i64 _ _ underlying3, run_equalIn_string _ 9998 9 _ _ underlying9, run_underlying underlying3, run_underlying underlying9, h0, h1]
theorem bx7 (a0 b0 : Str) (a1 b1 : Int) (w : World) : (binOp .neq 55 (.agg #[.string ⟨(a0 : Str).toArray⟩, .int .i64 a1]) (.agg #[.string ⟨(b0 : Str).toArray⟩, .int .i64 b1])).run prog w = .ok (.bool (decide (¬ (a0, a1) = (b0, b1)))) w := by rw [run_neq_struct, bz0, decide_not]; rfl
theorem bz2 (op : BinOp) (x y : Operand) (xs ys : Array Value) (w : World) : (eqGuard op 55 x y (.agg xs) (.agg ys)).run prog w = .ok () w := run_eqGuard_agg w op 55 x y xs ys n5
theorem rT (a0 b0 : Int) (a1 b1 : Int) (w : World) : (Op.equalIn 10000 57 (.agg #[.int .i64 a0, .int .i64 a1]) (.agg #[.int .i64 b0, .int .i64 b1])).run prog w = .ok (decide ((a0, a1) = (b0, b1))) w := by
  rw [run_equalIn_agg w 9999 57 _ _ (by simp only [Program.fieldsOf, underlying57]) n5]; simp only [Program.fieldsOf, underlying57]
  by_cases h0 : a0 = b0 <;> by_cases h1 : a1 = b1 <;>
    simp [Op.eqFields, part, isAgg, run_equalIn_int _ 9998 3 .i64 .i64 _ _ underlying3, run_underlying underlying3, h0, h1]
theorem bx9 (a0 b0 : Int) (a1 b1 : Int) (w : World) : (binOp .eql 57 (.agg #[.int .i64 a0, .int .i64 a1]) (.agg #[.int .i64 b0, .int .i64 b1])).run prog w = .ok (.bool (decide ((a0, a1) = (b0, b1)))) w := by rw [run_eql_struct, rT]; rfl
theorem bx8 (a0 b0 : Int) (a1 b1 : Int) (w : World) : (binOp .neq 57 (.agg #[.int .i64 a0, .int .i64 a1]) (.agg #[.int .i64 b0, .int .i64 b1])).run prog w = .ok (.bool (decide (¬ (a0, a1) = (b0, b1)))) w := by rw [run_neq_struct, rT, decide_not]; rfl
theorem rV (op : BinOp) (x y : Operand) (xs ys : Array Value) (w : World) : (eqGuard op 57 x y (.agg xs) (.agg ys)).run prog w = .ok () w := run_eqGuard_agg w op 57 x y xs ys n5
end T
end Go.Proofs.YtpfbbggmcbhboaaGreatDoor
end
section
namespace Go.W
universe u
open Go Go.RowKit
class El (α : Type) extends Inhabited α where
  cells : α → List Value
  sz : Nat
  len : ∀ a, (cells a).length = sz
  one : ∀ a, ∀ u ∈ cells a, u.oneCell' = true
def rows {α : Type} [El α] (l : List α) : List Value := l.flatMap El.cells
instance : El Str where
  default := []
  cells s := [str s]
  sz := 1
  len _ := rfl
  one a u h := by simp at h; subst h; rfl
instance : El Int where
  default := 0
  cells n := [int n]
  sz := 1
  len _ := rfl
  one a u h := by simp at h; subst h; rfl
instance : El UInt8 where
  default := 0
  cells n := [.int .u8 n.toNat]
  sz := 1
  len _ := rfl
  one a u h := by simp at h; subst h; rfl
abbrev Mk := Int × Int × Str
instance : El Mk where
  default := (0, 0, [])
  cells m := [int m.1, int m.2.1, str m.2.2]
  sz := 3
  len _ := rfl
  one a u h := by simp at h; rcases h with h | h | h <;> subst h <;> rfl
structure Sl (α : Type) where
  a : Option Addr
  c : Nat
  l : List α
instance {α : Type} : El (Sl α) where
  default := ⟨none, 0, []⟩
  cells p := [.slice p.a p.l.length p.c]
  sz := 1
  len _ := rfl
  one a u h := by simp at h; subst h; rfl
section
variable {α : Type} [El α]
theorem tB : rows ([] : List α) = [] := rfl
theorem W4 (a : α) (l : List α) : rows (a :: l) = El.cells a ++ rows l := rfl
theorem z7 (l l' : List α) : rows (l ++ l') = rows l ++ rows l' := by simp [rows]
theorem O9 (l : List α) : (rows l).length = l.length * El.sz α := by
  induction l with
  | nil => simp [tB]
  | cons a l ih => rw [W4, List.length_append, El.len, ih, List.length_cons, Nat.add_mul, Nat.one_mul, Nat.add_comm]
theorem aW (l : List α) : ∀ u ∈ rows l, u.oneCell' = true := by
  intro u hu; obtain ⟨a, _, h⟩ := List.mem_flatMap.1 hu; exact El.one a u h
theorem aj8 (l : List α) (k : Nat) : (rows l).drop (k * El.sz α) = rows (l.drop k) := by
  induction l generalizing k with
  | nil => simp [tB]
  | cons a l ih =>
    cases k with
    | zero => simp
    | succ k =>
      rw [W4, List.drop_succ_cons, ← ih, List.drop_append, El.len, List.drop_eq_nil_of_le (by rw [El.len, Nat.succ_mul]; omega), List.nil_append]
      congr 1
      rw [Nat.succ_mul]
      omega
theorem rows_get' (l : List α) (i j : Nat) (hi : i < l.length) (hj : j < El.sz α) : (rows l)[i * El.sz α + j]? = (El.cells (l.getD i default))[j]? := by
  have h := congrArg (·[j]?) (aj8 l i); simp only [List.getElem?_drop] at h; rw [h, List.drop_eq_getElem_cons hi, W4, List.getElem?_append_left (by rw [El.len]; exact hj)]
  simp [List.getD_eq_getElem?_getD, hi]
theorem rows_get {l : List α} {i j : Nat} {v : Value} (hi : i < l.length) (hv : (El.cells (l.getD i default))[j]? = some v) : (rows l)[i * El.sz α + j]? = some v := by
  have hj : j < El.sz α := by
    have := (List.getElem?_eq_some_iff.1 hv).1
    rwa [El.len] at this
  rw [rows_get' l i j hi hj, hv]
theorem d7 {l : List α} {i : Nat} {v : Value} (hi : i < l.length) (hv : (El.cells (l.getD i default))[0]? = some v) : (rows l)[i * El.sz α]? = some v := rows_get (j := 0) hi hv
theorem s6 {l : List α} {i : Nat} (hi : i < l.length) : ∀ j u, (El.cells (l.getD i default))[j]? = some u → (rows l)[i * El.sz α + j]? = some u := fun j u h => rows_get hi h
theorem rows_lt {l : List α} {i : Nat} (hi : i < l.length) (h0 : 0 < El.sz α) : i * El.sz α < (rows l).length := by
  rw [O9]; exact Nat.mul_lt_mul_of_pos_right hi h0
theorem uK (l : List α) (k : Nat) : (rows l).take (k * El.sz α) = rows (l.take k) := by
  induction l generalizing k with
  | nil => simp [tB]
  | cons a l ih =>
    cases k with
    | zero => simp [tB]
    | succ k =>
      rw [W4, List.take_succ_cons, W4, ← ih, Nat.succ_mul, List.take_append, El.len, List.take_of_length_le (by rw [El.len]; omega)]
      congr 2
      omega
end
theorem jj0 {c : Cx} {Q : Exit → Act → World → Prop} {fr : Fr} {hp : Hp} {L : List Fact} {ops : Array Oper} {rest : List Oper} {d : Tmp} {ty : TypeId} {pos : String} {af : Array Edge}
    {s t : TypeId} {x : Operand} {ks k k' : IntKind} {a : Int} (z : Int) (hd : Nat.blt d c.n = true) (hs : c.P.underlying s = some (.int ks)) (ht : c.P.underlying t = some (.int k')) (hx : ev fr x = some (.int k a)) (hz : k'.wrap a = z)
    (kk : HL c ops Q rest ((d, .int k' z) :: fr) hp L) : HL c ops Q (⟨some d, .convert s t x, ty, pos, af, none⟩ :: rest) fr hp L :=
  u5 _ rfl rfl hd (fun a' w ha _ => by
    simp only [execOp, ha.ev hx, Sem.run_bind, convert, run_underlying hs, run_underlying ht, Result.andThen_ok]; rw [← hz]
    cases ks <;> rfl) kk
theorem z5 {α : Type} [El α] {c : Cx} {Q : Exit → Act → World → Prop} {fr : Fr} {hp : Hp} {L : List Fact} {ops : Array Oper} {rest : List Oper} {d : Tmp} {ty : TypeId} {pos : String} {af : Array Edge}
    {t e : TypeId} {x i : Operand} {A : Option Addr} {n cp : Nat} {kd : IntKind} {z : Int} (l : List α) (j : Nat) (hd : Nat.blt d c.n = true) (ht : c.P.underlying t = some (.slice e)) (hz : Sz c.P e (El.sz α))
    (hx : ev fr x = some (.slice A n cp)) (hi : ev fr i = some (.int kd z)) (hjz : z = (j : Int)) (hr : Row A (rows l) ∈ L) (hn : n = l.length) (hj : j < l.length) (h0 : 0 < El.sz α)
    (k : HL c ops Q rest ((d, .pointer (some ((adr A).add (j * El.sz α)))) :: fr) hp L) : HL c ops Q (⟨some d, .indexAddr t x i, ty, pos, af, none⟩ :: rest) fr hp L :=
  kq9 j hd ht hz hx hi hjz (by omega) hr (rows_lt hj h0) k
def Rows2 {α : Type} [El α] (A : Option Addr) (ps : List (Sl α)) : Fact where
  P w := (Row A (rows ps)).P w ∧ ∀ p ∈ ps, (Row p.a (rows p.l)).P w
  fp k := (Row A (rows ps)).fp k ∨ ∃ p ∈ ps, (Row p.a (rows p.l)).fp k
  st w w' h hP := ⟨(Row A (rows ps)).st w w' (fun k hk => h k (.inl hk)) hP.1, fun p hp => (Row p.a (rows p.l)).st w w' (fun k hk => h k (.inr ⟨p, hp, hk⟩)) (hP.2 p hp)⟩
  lt w hP k hk := by
    rcases hk with hk | ⟨p, hp, hk⟩
    · exact (Row A (rows ps)).lt w hP.1 k hk
    exact (Row p.a (rows p.l)).lt w (hP.2 p hp) k hk
section
variable {c : Cx} {Q : Exit → Act → World → Prop} {fr : Fr} {hp : Hp} {L : List Fact} {ops : Array Oper} {rest : List Oper}
theorem qq1 {α : Type} [El α] {b : Bx} {w : World} {A : Option Addr} {ps : List (Sl α)} (h : Rows2 A ps ∈ L) (hw : WI b w hp L) : WI b w hp (Row A (rows ps) :: L) :=
  cH hw (hw.fs _ h).1 (fun k hk => ⟨_, h, .inl hk⟩)
theorem qq3 {α : Type} [El α] {b : Bx} {w : World} {A : Option Addr} {ps : List (Sl α)} {p : Sl α} (h : Rows2 A ps ∈ L) (hp' : p ∈ ps) (hw : WI b w hp L) : WI b w hp (Row p.a (rows p.l) :: L) :=
  cH hw ((hw.fs _ h).2 p hp') (fun k hk => ⟨_, h, .inr ⟨p, hp', hk⟩⟩)
theorem yU {α : Type} [El α] {A : Option Addr} {ps : List (Sl α)} {x : Code} (h : Rows2 A ps ∈ L) (k : HC c x Q fr hp (Row A (rows ps) :: L)) : HC c x Q fr hp L := fun a w ha hw => k a w ha (qq1 h hw)
theorem tO {α : Type} [El α] {A : Option Addr} {ps : List (Sl α)} {p : Sl α} (h : Rows2 A ps ∈ L) (hp' : p ∈ ps) (k : HL c ops Q rest fr hp (Row p.a (rows p.l) :: L)) : HL c ops Q rest fr hp L := fun a w ha hw => k a w ha (qq3 h hp' hw)
variable {d : Tmp} {ty : TypeId} {pos : String} {af : Array Edge}
theorem p_t {x y z : Operand} {v : Value} {b : Bool} (hd : Nat.blt d c.n = true) (hx : ev fr x = some (.bool b)) (hb : b = true) (hy : ev fr y = some v) (k : HL c ops Q rest ((d, v) :: fr) hp L) : HL c ops Q (⟨some d, .pick x y z, ty, pos, af, none⟩ :: rest) fr hp L := by
  subst hb; exact rj0 hd hx hy k
theorem p_f {x y z : Operand} {v : Value} {b : Bool} (hd : Nat.blt d c.n = true) (hx : ev fr x = some (.bool b)) (hb : b = false) (hz : ev fr z = some v) (k : HL c ops Q rest ((d, v) :: fr) hp L) : HL c ops Q (⟨some d, .pick x y z, ty, pos, af, none⟩ :: rest) fr hp L := by
  subst hb; exact dq6 hd hx hz k
theorem c_t {x : Operand} {b : Bool} {thn els : Code} (hx : ev fr x = some (.bool b)) (hb : b = true) (ht : HC c thn Q fr hp L) : HC c (.cond x thn els) Q fr hp L := by subst hb; exact pA hx ht
theorem c_f {x : Operand} {b : Bool} {thn els : Code} (hx : ev fr x = some (.bool b)) (hb : b = false) (hf : HC c els Q fr hp L) : HC c (.cond x thn els) Q fr hp L := by subst hb; exact uV hx hf
theorem bt1 {b : Bool} (h : (b == true) = true) : b = true := by cases b <;> simp_all
theorem bt2 {b : Bool} (h : (b == false) = false) : b = true := by cases b <;> simp_all
theorem bf1 {b : Bool} (h : (b == false) = true) : b = false := by cases b <;> simp_all
theorem bf2 {b : Bool} (h : (b == true) = false) : b = false := by cases b <;> simp_all
theorem gy {b : Bool} (h : (b == true) = false) : (b == false) = true := by cases b <;> simp_all
theorem gn {b : Bool} (h : (b == true) = true) : (b == false) = false := by cases b <;> simp_all
theorem vW {o : Oper} {j : Nat} {want : Bool} {t : Tmp} {v : Value} (ho : o.dst = some d) (hg : o.guard = some (j, want)) (hd : Nat.blt d c.n = true) (hj : (ops[j]?).bind (·.dst) = some t) (hv : lk fr t = some v) (hu : v = undef)
    (k : HL c ops Q rest ((d, undef) :: fr) hp L) : HL c ops Q (o :: rest) fr hp L := by
  subst hu; intro a w ha hw; refine jz5 ?_ ?_
  · rw [Region.wanted, hg]
    show (yielded ops a.tmps j == some want) = false; have h1 := ha.at_ t _ hv
    have : yielded ops a.tmps j = none := by
      unfold yielded; rw [hj]; simp only [Option.bind_some]
      cases h2 : a.tmps[t]? with
      | none => rfl
      | some u => simp [Array.getD_eq_getD_getElem?, h2, undef] at h1; rw [h1]
    rw [this]; rfl
  rw [ho]; exact k _ _ (ha.put (by simpa using hd) _) hw
theorem n6 {dst : Option Tmp} {op : Op} {j : Nat} {want b : Bool} {t : Tmp} (hj : (ops[j]?).bind (·.dst) = some t) (hv : lk fr t = some (.bool b))
    (hy : (b == want) = true → HL c ops Q (⟨dst, op, ty, pos, af, some (j, want)⟩ :: rest) fr hp L) (hn : (b == want) = false → HL c ops Q (⟨dst, op, ty, pos, af, some (j, want)⟩ :: rest) fr hp L) :
    HL c ops Q (⟨dst, op, ty, pos, af, some (j, want)⟩ :: rest) fr hp L := by
  cases hb : (b == want)
  · exact hn hb
  exact hy hb
theorem yV {DP : Nat → List PanicEntry → Prop} {O0 : Hp} {K : Env → Prop} {r : List Oper} {E : Env} {want b : Bool} {t : Tmp} (hv : lkE E t = some (.ex (.bool b))) (hy : (b == want) = true → HB DP c ops fr O0 hp L K r E) (hn : (b == want) = false → HB DP c ops fr O0 hp L K r E) : HB DP c ops fr O0 hp L K r E := by
  cases hb : (b == want)
  · exact hn hb
  exact hy hb
theorem k8 {x : Operand} {p : Prop} [Decidable p] {thn els : Code} (hx : ev fr x = some (.bool (decide p))) (ht : p → HC c thn Q fr hp L) (hf : ¬ p → HC c els Q fr hp L) : HC c (.cond x thn els) Q fr hp L :=
  d9 hx (fun h => ht (of_decide_eq_true h)) (fun h => hf (of_decide_eq_false h))
end
theorem m0 {α : Type u} {a  : α} {l : List α} : a ∈ a :: l := .head _
theorem m1 {α : Type u} {a x0 : α} {l : List α} : a ∈ x0 :: a :: l := .tail _ (.head _)
theorem m2 {α : Type u} {a x0 x1 : α} {l : List α} : a ∈ x0 :: x1 :: a :: l := .tail _ (.tail _ (.head _))
theorem m3 {α : Type u} {a x0 x1 x2 : α} {l : List α} : a ∈ x0 :: x1 :: x2 :: a :: l := .tail _ (.tail _ (.tail _ (.head _)))
theorem m4 {α : Type u} {a x0 x1 x2 x3 : α} {l : List α} : a ∈ x0 :: x1 :: x2 :: x3 :: a :: l := .tail _ (.tail _ (.tail _ (.tail _ (.head _))))
theorem m5 {α : Type u} {a x0 x1 x2 x3 x4 : α} {l : List α} : a ∈ x0 :: x1 :: x2 :: x3 :: x4 :: a :: l := .tail _ (.tail _ (.tail _ (.tail _ (.tail _ (.head _)))))
theorem m6 {α : Type u} {a x0 x1 x2 x3 x4 x5 : α} {l : List α} : a ∈ x0 :: x1 :: x2 :: x3 :: x4 :: x5 :: a :: l := .tail _ (.tail _ (.tail _ (.tail _ (.tail _ (.tail _ (.head _))))))
theorem m7 {α : Type u} {a x0 x1 x2 x3 x4 x5 x6 : α} {l : List α} : a ∈ x0 :: x1 :: x2 :: x3 :: x4 :: x5 :: x6 :: a :: l := .tail _ (.tail _ (.tail _ (.tail _ (.tail _ (.tail _ (.tail _ (.head _)))))))
theorem m8 {α : Type u} {a x0 x1 x2 x3 x4 x5 x6 x7 : α} {l : List α} : a ∈ x0 :: x1 :: x2 :: x3 :: x4 :: x5 :: x6 :: x7 :: a :: l := .tail _ (.tail _ (.tail _ (.tail _ (.tail _ (.tail _ (.tail _ (.tail _ (.head _))))))))
theorem m9 {α : Type u} {a x0 x1 x2 x3 x4 x5 x6 x7 x8 : α} {l : List α} : a ∈ x0 :: x1 :: x2 :: x3 :: x4 :: x5 :: x6 :: x7 :: x8 :: a :: l := .tail _ (.tail _ (.tail _ (.tail _ (.tail _ (.tail _ (.tail _ (.tail _ (.tail _ (.head _)))))))))
theorem m10 {α : Type u} {a x0 x1 x2 x3 x4 x5 x6 x7 x8 x9 : α} {l : List α} : a ∈ x0 :: x1 :: x2 :: x3 :: x4 :: x5 :: x6 :: x7 :: x8 :: x9 :: a :: l := .tail _ (.tail _ (.tail _ (.tail _ (.tail _ (.tail _ (.tail _ (.tail _ (.tail _ (.tail _ (.head _))))))))))
theorem m11 {α : Type u} {a x0 x1 x2 x3 x4 x5 x6 x7 x8 x9 x10 : α} {l : List α} : a ∈ x0 :: x1 :: x2 :: x3 :: x4 :: x5 :: x6 :: x7 :: x8 :: x9 :: x10 :: a :: l := .tail _ (.tail _ (.tail _ (.tail _ (.tail _ (.tail _ (.tail _ (.tail _ (.tail _ (.tail _ (.tail _ (.head _)))))))))))
theorem m12 {α : Type u} {a x0 x1 x2 x3 x4 x5 x6 x7 x8 x9 x10 x11 : α} {l : List α} : a ∈ x0 :: x1 :: x2 :: x3 :: x4 :: x5 :: x6 :: x7 :: x8 :: x9 :: x10 :: x11 :: a :: l := .tail _ (.tail _ (.tail _ (.tail _ (.tail _ (.tail _ (.tail _ (.tail _ (.tail _ (.tail _ (.tail _ (.tail _ (.head _))))))))))))
theorem perm3 {α : Type} (a b c : α) (l : List α) : (a :: b :: c :: l).Perm (c :: a :: b :: l) := by
  have h1 : (a :: b :: c :: l).Perm (a :: c :: b :: l) := (List.Perm.swap c b l).cons a; exact h1.trans (.swap c a _)
theorem perm2 {α : Type} (a b : α) (l : List α) : (a :: b :: l).Perm (b :: a :: l) := .swap b a l
theorem perm4 {α : Type} (a b c d : α) (l : List α) : (a :: b :: c :: d :: l).Perm (d :: a :: b :: c :: l) := ((perm3 b c d l).cons a).trans (.swap d a _)
end Go.W
end
namespace Go.W
theorem M6 {l l' : Hp} (h : List.Perm l l' := by first | exact .refl _ | exact perm2 _ _ _ | exact perm3 _ _ _ _ | exact perm4 _ _ _ _ _) : List.Perm l l' := h
theorem sx6 {b : Bool} (h : b = true := by first | rfl | assumption | exact bt1 (by assumption) | exact bt2 (by assumption)) : b = true := h
theorem gq7 {b : Bool} (h : b = false := by first | rfl | assumption | exact bf1 (by assumption) | exact bf2 (by assumption)) : b = false := h
theorem ret_u {k : Con Unit} {c : Cx} {fr : Fr} {hp : Hp} {L : List Fact} {fn : Func} {w0 : World} {t : Tmp} (hres : fn.results = #[.tmp t] := by exact rfl) (hv : lk fr t = some (k.val ()) := by exact rfl) (hb : c.b = k.entry w0 := by exact rfl) (hi : k.inv () := by exact trivial) (hh : (k.hpO ()).Sublist hp := by exact nK) (hL : LSub L (k.LO ()) := by exact trivial) (hD : c.D = [] := by exact rfl) : HQ c (postB c.P fn (k.post w0)) .ret fr hp L := ret1 () hres hv hb hi hh hL hD
end Go.W
section
namespace Go.W
open Go Go.RowKit
section
variable {c : Cx} {Q : Exit → Act → World → Prop} {fr : Fr} {hp : Hp} {L : List Fact} {ops : Array Oper} {rest : List Oper}
variable {d : Tmp} {ty : TypeId} {pos : String} {af : Array Edge}
theorem rq5 {g : Nat} {cs : Array Value} {t : TypeId} {fz : Nat × Nat} {w : World} (h : w.heap[g]? = some (.cells cs t fz)) {us : List Value} (hu : us <+: cs.toList) : (Row (k5 g) us).P w := fun j u hj => by
  refine ⟨_, rfl, ?_⟩; rw [iU, Nat.zero_add]; obtain ⟨r, hr⟩ := hu
  have : cs[j]? = some u := by
    rw [← Array.getElem?_toList, ← hr, List.getElem?_append]; have hlt : j < us.length := (List.getElem?_eq_some_iff.1 hj).1; rw [if_pos hlt, hj]
  simp [World.cell?, h, this]
theorem lz1 (s : Str) : rows s = s.map (fun b => Value.int .u8 b.toNat) := by
  induction s with
  | nil => rfl
  | cons a s ih => rw [W4, ih]; rfl
theorem cz4 {s t e : TypeId} {x : Operand} {l : Str} (hd : Nat.blt d c.n = true) (hs : c.P.underlying s = some .string) (ht : c.P.underlying t = some (.slice e)) (he : c.P.underlying e = some (.int .u8)) (hx : ev fr x = some (str l))
    (k : ∀ g cap, HL c ops Q rest ((d, .slice (k5 g) l.length cap) :: fr) hp (Row (k5 g) (rows l) :: L)) : HL c ops Q (⟨some d, .convert s t x, ty, pos, af, none⟩ :: rest) fr hp L :=
  tP rfl rfl hd fun a w ha hw => by
    have h1 := run_bytes_of_string (P := c.P) w s t e (.mk l.toArray) hs ht he; refine ⟨_, (w.drew.alloc (.cells (bytesRow (.mk l.toArray) (grownCap w (ByteArray.mk l.toArray).size 0 e)) e ((bytesRow (.mk l.toArray) (grownCap w (ByteArray.mk l.toArray).size 0 e)).size, (bytesRow (.mk l.toArray) (grownCap w (ByteArray.mk l.toArray).size 0 e)).size + 1))), hp, _, ?_, ?_, k w.heap.size (grownCap w (ByteArray.mk l.toArray).size 0 e)⟩
    · simp only [execOp, ha.ev hx, str, Sem.run_bind, h1, Result.andThen_ok, Sem.run_pure]
      rfl
    have h2 := (hw.quiet (gj5 w)).alloc (.cells (bytesRow (.mk l.toArray) (grownCap w (ByteArray.mk l.toArray).size 0 e)) e ((bytesRow (.mk l.toArray) (grownCap w (ByteArray.mk l.toArray).size 0 e)).size, (bytesRow (.mk l.toArray) (grownCap w (ByteArray.mk l.toArray).size 0 e)).size + 1)); refine WI.letgo h2 (rq5 (h2.own (w.heap.size, _) (.head _)) ?_) (fun k hk => by obtain ⟨ad, e', h3, _⟩ := hk; cases e'; exact h3.symm); rw [lz1, bytesRow]
    simp
theorem C8 {t e : TypeId} {x : Operand} {g : Nat} {cs : Array Value} {fz : Nat × Nat} {n : Nat} (hd : Nat.blt d c.n = true) (ht' : IsR c.P t) (hz' : Sz c.P t n) (hx : ev fr x = some (.pointer (k5 g))) (h : (g, Obj.cells cs e fz) ∈ hp) (hn : cs.size = n)
    (k : HL c ops Q rest ((d, .agg cs) :: fr) hp L) : HL c ops Q (⟨some d, .load t x, ty, pos, af, none⟩ :: rest) fr hp L :=
  u3 (cs := cs.toList) hd ht' hz' hx (by simpa using hn) (pz7 h (fun i u hu => by simpa using hu)) k
end
end Go.W
end
section
namespace Go.W
open Go Go.RowKit
abbrev Ment (κ : Type) := κ × Value × Nat
def entOf {κ : Type} (enc : κ → Value) (p : Ment κ) : MapEntry := ⟨enc p.1, p.2.1, p.2.2⟩
def mapO {κ : Type} (enc : κ → Value) (l : List (Ment κ)) (clk : Nat) : Obj := .map (l.map (entOf enc)).toArray clk
def findM {κ : Type} [DecidableEq κ] (k : κ) : List (Ment κ) → Nat → Option (Nat × Value)
  | [], _ => none
  | p :: l, i => if p.1 = k then some (i, p.2.1) else findM k l (i + 1)
def getM {κ : Type} [DecidableEq κ] (l : List (Ment κ)) (k : κ) : Option Value := (findM k l 0).map (·.2)
def putM {κ : Type} [DecidableEq κ] (l : List (Ment κ)) (k : κ) (v : Value) (clk : Nat) : List (Ment κ) :=
  match findM k l 0 with
  | some (i, _) => l.modify i fun p => (k, v, p.2.2)
  | none => l ++ [(k, v, clk)]
def clkM {κ : Type} [DecidableEq κ] (l : List (Ment κ)) (k : κ) (clk : Nat) : Nat := if (findM k l 0).isSome then clk else clk + 1
structure KeyC (P : Program) (kt : TypeId) {κ : Type} [DecidableEq κ] (enc : κ → Value) : Prop where
  chk : ∀ b k w, (Instr.checkKey b 10000 kt (enc k)).run P w = .ok () w
  find : ∀ k l w, (Instr.findKey kt (enc k) (l.map (entOf enc))).run P w = .ok (findM k l 0) w
  stays : ∀ k w, (Instr.keyThatStays (enc k) (enc k)).run P w = .ok (enc k) w
theorem uD (k : Int) : ∀ (l : List (Ment Int)) (i : Nat), Instr.findNow (.int .i64) (int k) (l.map (entOf int)) i = some (findM k l i)
  | [], i => rfl
  | p :: l, i => by
    rw [List.map_cons, Instr.findNow]; simp only [Instr.sameNow, entOf, findM]
    by_cases h : p.1 = k
    · simp [h]
    have h' : ¬ k = p.1 := fun e => h e.symm; simp only [if_true, h, if_false, beq_eq_false_iff_ne.2 h']; exact uD k l (i + 1)
theorem bx2 (k : Str) : ∀ (l : List (Ment Str)) (i : Nat), Instr.findNow .string (str k) (l.map (entOf str)) i = some (findM k l i)
  | [], i => rfl
  | p :: l, i => by
    rw [List.map_cons, Instr.findNow]; simp only [str, Instr.sameNow, entOf, findM]
    have hb : ((ByteArray.mk k.toArray) == ByteArray.mk p.1.toArray) = decide (p.1 = k) := by
      rw [Bool.eq_iff_iff, MapKept.bytes_beq, decide_eq_true_iff]
      constructor
      · intro e
        injection e with e
        have := congrArg Array.toList e
        simpa using this.symm
      intro e; rw [e]
    rw [hb]
    by_cases h : p.1 = k
    · simp [h]
    simp only [h, decide_false, if_false]; exact bx2 k l (i + 1)
theorem KeyC.int {P : Program} {kt : TypeId} (h : P.underlying kt = some (.int .i64)) : KeyC P kt W.int where
  chk b k w := MapKept.run_checkKey h (by simp [MapKept.IsKey]) b 9999
  find k l w := MapKept.run_findKey h (uD k l 0)
  stays k w := MapKept.run_keyThatStays (d := .int .i64) (by simp [MapKept.IsKey])
theorem KeyC.str {P : Program} {kt : TypeId} (h : P.underlying kt = some .string) : KeyC P kt W.str where
  chk b k w := MapKept.run_checkKey h (by simp [MapKept.IsKey, W.str]) b 9999
  find k l w := MapKept.run_findKey h (bx2 k l 0)
  stays k w := MapKept.run_keyThatStays (d := .string) (by simp [MapKept.IsKey, W.str])
def pair (p : Int × Int) : Value := .agg #[W.int p.1, W.int p.2]
theorem nW {P : Program} {e : TypeId} (he : P.underlying e = some (.int .i64)) (cs : Array Value) (i : Nat) (v : Value) (hv : cs[i]? = some v) (w : World) : (part e cs i).run P w = .ok v w := by
  have hagg : (isAgg e).run P w = .ok false w := by
    unfold isAgg; rw [Sem.run_bind, run_underlying he w]
    rfl
  simp [part, Sem.run_bind, hagg, hv]
theorem mq2 {P : Program} {e : TypeId} (he : P.underlying e = some (.int .i64)) (d : Nat) (a b : Int) (w : World) : (Op.equalIn (d + 1) e (W.int a) (W.int b)).run P w = .ok (a == b) w := by
  simp [Op.equalIn, run_underlying he]
theorem eq_pair {P : Program} {kt e : TypeId} (h : P.underlying kt = some (.array 2 e)) (he : P.underlying e = some (.int .i64)) (hz : Sz P e 1) (p q : Int × Int) (w : World) : (Op.equal kt (pair p) (pair q)).run P w = .ok (decide (p = q)) w := by
  have hs := U8 hz w
  have key : ∀ d, (Op.equalIn (d + 2) kt (pair p) (pair q)).run P w = .ok (decide (p = q)) w := by
    intro d; obtain ⟨a, b⟩ := p; obtain ⟨a', b'⟩ := q; have p0 := nW he #[W.int a, W.int b] 0 (W.int a) rfl w; have p1 := nW he #[W.int a, W.int b] 1 (W.int b) rfl w; have q0 := nW he #[W.int a', W.int b'] 0 (W.int a') rfl w; have q1 := nW he #[W.int a', W.int b'] 1 (W.int b') rfl w; unfold Op.equalIn; simp only [Sem.run_bind, run_underlying h, pair, hs, Result.andThen_ok, Std.Legacy.Range.forIn_eq_forIn_range', Std.Legacy.Range.size, Nat.sub_zero, Nat.reduceAdd, Nat.reduceSub, Nat.reduceDiv, List.range', List.forIn_cons, List.forIn_nil, Nat.zero_mul, Nat.mul_one, Nat.zero_add, p0, p1, q0, q1, mq2 he d]
    by_cases h1 : a = a'
    · subst h1
      by_cases h2 : b = b'
      · subst h2; simp [p1, mq2 he d]
      simp [h2, p1, q1, mq2 he d]
    simp [h1]
  exact key 9998
theorem gj4 {P : Program} {kt e : TypeId} (h : P.underlying kt = some (.array 2 e)) (he : P.underlying e = some (.int .i64)) (hz : Sz P e 1) (k : Int × Int) (w : World) : ∀ (l : List (Ment (Int × Int))) (i : Nat), (Instr.findAsking kt (pair k) (l.map (entOf pair)) i).run P w = .ok (findM k l i) w
  | [], i => rfl
  | p :: l, i => by
    rw [List.map_cons, Instr.findAsking]; simp only [Sem.run_bind, entOf, eq_pair h he hz, Result.andThen_ok, findM]
    by_cases hk : p.1 = k
    · simp [hk]
    have h' : ¬ k = p.1 := fun e => hk e.symm; simp only [hk, h', decide_false, Bool.false_eq_true, if_false]; exact gj4 h he hz k w l (i + 1)
theorem KeyC.pair {P : Program} {kt e : TypeId} (h : P.underlying kt = some (.array 2 e)) (he : P.underlying e = some (.int .i64)) (hz : Sz P e 1) : KeyC P kt W.pair where
  chk b k w := by
    have hs := U8 hz w; have p0 := nW he #[W.int k.1, W.int k.2] 0 (W.int k.1) rfl w; have p1 := nW he #[W.int k.1, W.int k.2] 1 (W.int k.2) rfl w; have c : ∀ (n : Int), (Instr.checkKey b 9999 e (W.int n)).run P w = .ok () w := fun n => MapKept.run_checkKey he (by simp [MapKept.IsKey]) b 9998; unfold Instr.checkKey
    simp [run_underlying h, W.pair, hs, Std.Legacy.Range.forIn_eq_forIn_range', List.range', p0, p1, c]
  find k l w := by
    unfold Instr.findKey; simp only [Sem.run_bind, run_underlying h, Result.andThen_ok]
    have : Instr.findNow (.array 2 e) (W.pair k) (l.map (entOf W.pair)) 0 = none ∨ (l = [] ∧ Instr.findNow (.array 2 e) (W.pair k) (l.map (entOf W.pair)) 0 = some none) := by
      cases l with
      | nil => exact .inr ⟨rfl, rfl⟩
      | cons p l => exact .inl rfl
    rcases this with h1 | ⟨rfl, h1⟩
    · rw [h1]
      exact gj4 h he hz k w l 0
    rw [h1]; rfl
  stays k w := by
    obtain ⟨a, b⟩ := k
    have : Instr.sameBits 10000 (W.pair (a, b)) (W.pair (a, b)) = true := by
      simp [Instr.sameBits, W.pair]
    unfold Instr.keyThatStays; rw [if_pos this]
    rfl
/-! ### Cuts aS9 facts; perms -/
theorem C0 {α : Type} {l l' : List α} (h : ∀ p : α → Bool, l.countP p = l'.countP p) : l.Perm l' := by
  classical
  refine List.perm_iff_count.2 fun a => ?_
  simpa [List.count] using h (· == a)
theorem pm1 {α : Type} (l : List α) (a b c : α) : (a :: b :: (l ++ [c])).Perm (l ++ [a, b, c]) := C0 fun p => by simp only [List.countP_append, List.countP_cons, List.countP_nil]; omega
theorem pm2 {α : Type} (l : List α) (a b c : α) : (l ++ [a, b, c]).Perm (b :: (l ++ [a, c])) := C0 fun p => by simp only [List.countP_append, List.countP_cons, List.countP_nil]; omega
theorem pm3 {α : Type} (l : List α) (a b c : α) : (a :: (l ++ [b, c])).Perm (l ++ [a, b, c]) := C0 fun p => by simp only [List.countP_append, List.countP_cons, List.countP_nil]; omega
theorem pm4 {α : Type} (l : List α) (a b c : α) : (l ++ [a, b, c]).Perm (a :: (l ++ [b, c])) := (pm3 l a b c).symm
theorem pm5 {α : Type} (l : List α) (a b c : α) : (a :: (l ++ [b, c])).Perm (b :: c :: a :: l) := C0 fun p => by simp only [List.countP_append, List.countP_cons, List.countP_nil]; omega
theorem pm6 {α : Type} (l : List α) (a b c : α) : (b :: c :: a :: l).Perm ((a :: l) ++ [b, c]) := C0 fun p => by simp only [List.countP_append, List.countP_cons, List.countP_nil]; omega
theorem pm7 {α : Type} (l : List α) (a b : α) : (a :: (l ++ [b])).Perm (l ++ [a, b]) := C0 fun p => by simp only [List.countP_append, List.countP_cons, List.countP_nil]; omega
theorem sx1 {α : Type} [El α] {A : Option Addr} {p : List α} {ca lo hi : Nat} {w : World} (h : (Row A (rows p)).P w) (hc : p.length ≤ ca) : (Row (cutA A ca lo (El.sz α)) (rows ((p.take hi).drop lo))).P w := by
  refine cut_row h (fun j u hj => ?_) (fun hne => ?_)
  · rw [← aj8, ← uK, List.getElem?_drop, List.getElem?_take] at hj
    split at hj
    · exact hj
    cases hj
  rcases Nat.lt_or_ge lo p.length with h | h
  · omega
  have : (p.take hi).drop lo = [] := List.drop_eq_nil_of_le (by rw [List.length_take]; omega); rw [this] at hne; exact absurd rfl hne
theorem wi_cut {α : Type} [El α] {b : Bx} {hp : Hp} {L : List Fact} {A : Option Addr} {p : List α} {ca : Nat} {w : World} (lo hi : Nat) (h : Row A (rows p) ∈ L) (hc : p.length ≤ ca) (hw : WI b w hp L) : WI b w hp (Row (cutA A ca lo (El.sz α)) (rows ((p.take hi).drop lo)) :: L) :=
  cH hw (sx1 (hw.fs _ h) hc) (fun k hk => ⟨_, h, by
    obtain ⟨ad, e, hb⟩ := cut_fp hk; refine ⟨ad, e, hb, ?_⟩; obtain ⟨_, _, _, hne⟩ := hk; rintro h0
    apply hne
    rw [← aj8, ← uK, h0]
    simp⟩)
section
variable {c : Cx} {Q : Exit → Act → World → Prop} {fr : Fr} {hp : Hp} {L : List Fact} {ops : Array Oper} {rest : List Oper}
theorem aq5 {e : TypeId} {sz n cap : Nat} {A : Option Addr} {xs : List Value} {og : Hp} {x : Exit} (hG : Grow e sz A n cap xs og) (k : HQ c Q x fr [] (Row A xs :: L)) : HQ c Q x fr og L := fun a w ha hw => k a w ha (sS hG (by simpa using hw))
theorem mj7 {α : Type} [El α] {A : Option Addr} {p : List α} {ca : Nat} (lo hi : Nat) (h : Row A (rows p) ∈ L) (hc : p.length ≤ ca) (k : HL c ops Q rest fr hp (Row (cutA A ca lo (El.sz α)) (rows ((p.take hi).drop lo)) :: L)) : HL c ops Q rest fr hp L :=
  fun a w ha hw => k a w ha (wi_cut lo hi h hc hw)
end
/-! ### The rules -/
def MapAt (b : Bx) (hp : Hp) (L : List Fact) (g : Nat) (o : Obj) : Prop := ∀ w, WI b w hp L → w.heap[g]? = some o
section
variable {κ : Type} [DecidableEq κ] {enc : κ → Value} {kt e : TypeId}
theorem V2 {b : Bx} {hp : Hp} {L : List Fact} {g : Nat} {o : Obj} (h : (g, o) ∈ hp) : MapAt b hp L g o := fun w hw => hw.own _ h
theorem yI {b : Bx} {hp : Hp} {L : List Fact} {g : Nat} {o : Obj} (h : Blk g o ∈ L) : MapAt b hp L g o := fun w hw => hw.fs _ h
variable {c : Cx} {Q : Exit → Act → World → Prop} {fr : Fr} {hp : Hp} {L : List Fact} {ops : Array Oper} {rest : List Oper}
variable {d : Tmp} {ty : TypeId} {pos : String} {af : Array Edge}
theorem R2 {P : Program} {t : TypeId} (K : KeyC P kt enc) (ht : P.underlying t = some (.map kt e)) {g : Nat} {l : List (Ment κ)} {clk : Nat} {k : κ} {w : World} (hb : w.heap[g]? = some (mapO enc l clk)) (ok : Bool) :
    ((getM l k).isSome = true → (Instr.lookup t (.map (some g)) (enc k) ok).run P w = .ok (if ok then .tuple #[(getM l k).getD undef, .bool true] else (getM l k).getD undef) w) ∧
    ∀ z, (zeroValue e).run P w = .ok z w → getM l k = none → (Instr.lookup t (.map (some g)) (enc k) ok).run P w = .ok (if ok then .tuple #[z, .bool false] else z) w := by
  have hf := K.find k l w; have hc := fun b => K.chk b k w; unfold getM
  cases hr : findM k l 0 with
  | none =>
    rw [hr] at hf; refine ⟨fun h => by simp at h, fun z hz _ => ?_⟩
    simp [Instr.lookup, run_underlying ht, MapKept.run_getObj_map (show w.heap[g]? = some (.map _ _) from hb), hc, hf, hz]
  | some p =>
    obtain ⟨i, v⟩ := p; rw [hr] at hf; refine ⟨fun _ => ?_, fun z hz h => by simp at h⟩
    simp [Instr.lookup, run_underlying ht, MapKept.run_getObj_map (show w.heap[g]? = some (.map _ _) from hb), hc, hf]
theorem iz8 {t : TypeId} {x y : Operand} {g : Nat} {l : List (Ment κ)} {clk : Nat} {k : κ} {v : Value} (K : KeyC c.P kt enc) (hd : Nat.blt d c.n = true) (ht : c.P.underlying t = some (.map kt e)) (hx : ev fr x = some (.map (some g))) (hy : ev fr y = some (enc k)) (hm : MapAt c.b hp L g (mapO enc l clk))
    (hv : getM l k = some v) (kk : HL c ops Q rest ((d, v) :: fr) hp L) : HL c ops Q (⟨some d, .lookup t x y false, ty, pos, af, none⟩ :: rest) fr hp L :=
  u5 _ rfl rfl hd (fun a w ha hw => by
    have := (R2 (k := k) K ht (hm w hw) false).1 (by simp [hv]); simp only [hv, Option.getD_some, Bool.false_eq_true, if_false] at this
    simp only [execOp, ha.ev hx, ha.ev hy, Sem.run_bind, this, Result.andThen_ok, Sem.run_pure]) kk
theorem mz8 {t : TypeId} {x y : Operand} {g : Nat} {l : List (Ment κ)} {clk : Nat} {k : κ} {z : Value} (K : KeyC c.P kt enc) (hd : Nat.blt d c.n = true) (ht : c.P.underlying t = some (.map kt e)) (hx : ev fr x = some (.map (some g))) (hy : ev fr y = some (enc k)) (hm : MapAt c.b hp L g (mapO enc l clk))
    (hz : ∀ w, (zeroValue e).run c.P w = .ok z w) (hv : getM l k = none) (kk : HL c ops Q rest ((d, z) :: fr) hp L) : HL c ops Q (⟨some d, .lookup t x y false, ty, pos, af, none⟩ :: rest) fr hp L :=
  u5 _ rfl rfl hd (fun a w ha hw => by
    have := (R2 (k := k) K ht (hm w hw) false).2 z (hz w) hv; simp only [Bool.false_eq_true, if_false] at this
    simp only [execOp, ha.ev hx, ha.ev hy, Sem.run_bind, this, Result.andThen_ok, Sem.run_pure]) kk
theorem rj4 {t : TypeId} {x y : Operand} {g : Nat} {l : List (Ment κ)} {clk : Nat} {k : κ} {v : Value} (K : KeyC c.P kt enc) (hd : Nat.blt d c.n = true) (ht : c.P.underlying t = some (.map kt e)) (hx : ev fr x = some (.map (some g))) (hy : ev fr y = some (enc k)) (hm : MapAt c.b hp L g (mapO enc l clk))
    (hv : getM l k = some v) (kk : HL c ops Q rest ((d, .tuple #[v, .bool true]) :: fr) hp L) : HL c ops Q (⟨some d, .lookup t x y true, ty, pos, af, none⟩ :: rest) fr hp L :=
  u5 _ rfl rfl hd (fun a w ha hw => by
    have := (R2 (k := k) K ht (hm w hw) true).1 (by simp [hv]); simp only [hv, Option.getD_some, if_true] at this
    simp only [execOp, ha.ev hx, ha.ev hy, Sem.run_bind, this, Result.andThen_ok, Sem.run_pure]) kk
theorem nz5 {t : TypeId} {x y : Operand} {g : Nat} {l : List (Ment κ)} {clk : Nat} {k : κ} {z : Value} (K : KeyC c.P kt enc) (hd : Nat.blt d c.n = true) (ht : c.P.underlying t = some (.map kt e)) (hx : ev fr x = some (.map (some g))) (hy : ev fr y = some (enc k)) (hm : MapAt c.b hp L g (mapO enc l clk))
    (hz : ∀ w, (zeroValue e).run c.P w = .ok z w) (hv : getM l k = none) (kk : HL c ops Q rest ((d, .tuple #[z, .bool false]) :: fr) hp L) : HL c ops Q (⟨some d, .lookup t x y true, ty, pos, af, none⟩ :: rest) fr hp L :=
  u5 _ rfl rfl hd (fun a w ha hw => by
    have := (R2 (k := k) K ht (hm w hw) true).2 z (hz w) hv; simp only [if_true] at this
    simp only [execOp, ha.ev hx, ha.ev hy, Sem.run_bind, this, Result.andThen_ok, Sem.run_pure]) kk
theorem zQ {k : κ} : ∀ (l : List (Ment κ)) (i j : Nat) (v : Value), findM k l i = some (j, v) → ∃ m p, j = i + m ∧ l[m]? = some p ∧ p.1 = k ∧ p.2.1 = v
  | [], i, j, v, h => by simp [findM] at h
  | p :: l, i, j, v, h => by
    rw [findM] at h
    split at h
    · rename_i e
      simp only [Option.some.injEq, Prod.mk.injEq] at h; exact ⟨0, p, by omega, rfl, e, h.2⟩
    obtain ⟨m, q, h1, h2, h3⟩ := zQ l (i + 1) j v h; exact ⟨m + 1, q, by omega, by simpa using h2, h3⟩
omit [DecidableEq κ] in
theorem tM {l : List (Ment κ)} {i : Nat} {k : κ} {v : Value} {p : Ment κ} (hp : l[i]? = some p) :
    ((l.map (entOf enc)).toArray.modify i fun x => { x with key := enc k, val := v }) = ((l.modify i fun p => (k, v, p.2.2)).map (entOf enc)).toArray := by
  apply Array.ext'
  simp only [Array.toList_modify]
  apply List.ext_getElem?
  intro n; simp only [List.getElem?_modify, List.getElem?_map]
  split
  · cases hl : l[n]? <;> simp [entOf]
  simp
theorem kF {t : TypeId} {x y z : Operand} {g : Nat} {l : List (Ment κ)} {clk : Nat} {k : κ} {v : Value} {hp' : Hp} {o : Op} (K : KeyC c.P kt enc) (ho : o = .mapUpdate t x y z ∨ o = .insert t x y z) (ht : c.P.underlying t = some (.map kt e)) (hx : ev fr x = some (.map (some g))) (hy : ev fr y = some (enc k)) (hz : ev fr z = some v)
    (hpp : hp.Perm ((g, mapO enc l clk) :: hp')) (kk : HL c ops Q rest fr ((g, mapO enc (putM l k v clk) (clkM l k clk)) :: hp') L) : HL c ops Q (⟨none, o, ty, pos, af, none⟩ :: rest) fr hp L :=
  cz7 (hok := by rcases ho with rfl | rfl <;> rfl) rfl rfl fun a w ha hw => by
    have hw' := hw.perm hpp; have hg := hw'.own (g, mapO enc l clk) (by simp); have hg' : w.heap[g]? = some (.map (l.map (entOf enc)).toArray clk) := hg; have hf := K.find k l w
    have hrun : (Instr.mapUpdate t (.map (some g)) (enc k) v).run c.P w = .ok () { w with heap := w.heap.setIfInBounds g (mapO enc (putM l k v clk) (clkM l k clk)) } := by
      unfold putM clkM
      cases hr : findM k l 0 with
      | none =>
        rw [hr] at hf; simp only [Instr.mapUpdate, Sem.run_bind, run_underlying ht, Result.andThen_ok, MapKept.run_getObj_map hg', K.chk, hf, MapKept.run_setObj_map _ hg']
        have : ((l.map (entOf enc)).toArray.push { key := enc k, val := v, born := clk }) = ((l ++ [(k, v, clk)]).map (entOf enc)).toArray := by
          apply Array.ext'; simp [entOf]
        rw [this]
        rfl
      | some p =>
        obtain ⟨i, u⟩ := p; rw [hr] at hf; obtain ⟨m, q, h1, h2, h3, h4⟩ := zQ l 0 i u hr; have e1 : i = m := by omega
        subst e1
        have e2 : (((l.map (entOf enc)).toArray[i]?).map (·.key)).getD (enc k) = enc k := by
          simp [h2, entOf, h3]
        simp only [Instr.mapUpdate, Sem.run_bind, run_underlying ht, Result.andThen_ok, MapKept.run_getObj_map hg', K.chk, hf, e2, K.stays, MapKept.run_setObj_map _ hg', tM h2]
        rfl
    refine ⟨{ w with heap := w.heap.setIfInBounds g (mapO enc (putM l k v clk) (clkM l k clk)) }, _, L, ?_, hw'.write (o' := mapO enc (putM l k v clk) (clkM l k clk)) ⟨rfl, rfl, rfl, by simp, fun j hj hn => by simp only [List.mem_singleton] at hn; simp [Array.getElem?_setIfInBounds_ne (Ne.symm hn)], Nat.le_refl _⟩ ?_, kk⟩
    · rcases ho with rfl | rfl <;> simp only [execOp, ha.ev hx, ha.ev hy, ha.ev hz, Sem.run_bind, hrun, Result.andThen_ok, Sem.run_pure]
    have := E1 hg; simp only at this
    simp [this]
omit [DecidableEq κ] in
theorem qM (enc : κ → Value) {t : TypeId} (hd : Nat.blt d c.n = true) (k : ∀ g, HL c ops Q rest ((d, .map (some g)) :: fr) ((g, mapO enc [] 0) :: hp) L) : HL c ops Q (⟨some d, .makeMap t none, ty, pos, af, none⟩ :: rest) fr hp L :=
  nz4 hd k
theorem lA {k : κ} : ∀ (l : List (Ment κ)) (i : Nat), findM k l (i + 1) = (findM k l i).map fun p => (p.1 + 1, p.2)
  | [], i => rfl
  | p :: l, i => by
    simp only [findM]
    split
    · rfl
    exact lA l (i + 1)
theorem aH (p : Ment κ) (l : List (Ment κ)) (k : κ) : getM (p :: l) k = if p.1 = k then some p.2.1 else getM l k := by
  unfold getM; simp only [findM]
  split
  · rfl
  rw [lA]; cases findM k l 0 <;> rfl
theorem kz9 (l : List (Ment κ)) (k k' : κ) (v : Value) (clk : Nat) : getM (putM l k v clk) k' = if k = k' then some v else getM l k' := by
  induction l with
  | nil => simp [putM, findM, aH, getM]
  | cons p l ih =>
    by_cases h : p.1 = k
    · have : putM (p :: l) k v clk = (k, v, p.2.2) :: l := by simp [putM, findM, h]
      rw [this, aH, aH]; simp only [h]
      split <;> rfl
    have : putM (p :: l) k v clk = p :: putM l k v clk := by
      simp only [putM, findM, h, if_false]; rw [lA]
      cases hf : findM k l 0 with
      | none => simp
      | some q => simp
    rw [this, aH, ih, aH]
    split
    · rename_i e
      rw [if_neg (fun e' => h (e.trans e'.symm))]
    rfl
end
end Go.W
end
