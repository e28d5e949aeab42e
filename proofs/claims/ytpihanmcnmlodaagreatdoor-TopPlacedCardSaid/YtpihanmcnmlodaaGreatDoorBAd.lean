/- Texts. -/
import Derived.Test.YtpihanmcnmlodaaGreatDoorProg
import Derived.KernelRfl
import Derived.Laws.StructEq
import Derived.Laws.IdiomStrings
import Derived.MapKept
import Derived.Laws.Rows
import Derived.Deep.AppendSrc
import Derived.Deep.Upon
import Derived.Test.YtpihanmcnmlodaaGreatDoorBAc
set_option linter.unusedVariables false
set_option linter.unusedSimpArgs false
section
namespace Go.Proofs.YtpihanmcnmlodaaGreatDoor
open Go Go.W Tryz
theorem mixed : prog.follows .mixedOrders = true := n9
namespace F
abbrev gq7 : Nat := 3
abbrev jX : Nat := 4
theorem rX : prog.funcs[jX]? = some f4 := func4
abbrev dM : Nat := 5
theorem wQ : prog.funcs[dM]? = some f5 := func5
theorem uN : Callable prog dM := u0 func5
abbrev mq0 : Nat := 6
abbrev mz8 : Nat := 7
abbrev nj4 : Nat := 8
abbrev cx8 : Nat := 9
abbrev mz5 : Nat := 10
abbrev mz6 : Nat := 11
abbrev mj5 : Nat := 12
abbrev mz7 : Nat := 13
abbrev mz4 : Nat := 14
abbrev bE : Nat := 15
theorem uL : prog.funcs[bE]? = some f15 := func15
theorem sE : Callable prog bE := u0 func15
abbrev bF : Nat := 16
theorem uM : prog.funcs[bF]? = some f16 := func16
theorem sF : Callable prog bF := u0 func16
abbrev dN : Nat := 17
theorem wR : prog.funcs[dN]? = some f17 := func17
theorem uO : Callable prog dN := u0 func17
abbrev Z9 : Nat := 18
theorem sJ : prog.funcs[Z9]? = some f18 := func18
theorem R5 : Callable prog Z9 := u0 func18
abbrev iU : Nat := 19
theorem yG : prog.funcs[iU]? = some f19 := func19
theorem kK : Callable prog iU := u0 func19
abbrev aX : Nat := 20
theorem uD : prog.funcs[aX]? = some f20 := func20
theorem U3 : Callable prog aX := u0 func20
abbrev U4 : Nat := 21
theorem pK : prog.funcs[U4]? = some f21 := func21
theorem Y6 : Callable prog U4 := u0 func21
abbrev X5 : Nat := 22
theorem wT : prog.funcs[X5]? = some f22 := func22
theorem uT : Callable prog X5 := u0 func22
abbrev lZ : Nat := 23
theorem aj4 : prog.funcs[lZ]? = some f23 := func23
theorem M4 : Callable prog lZ := u0 func23
abbrev lT : Nat := 24
theorem aj0 : prog.funcs[lT]? = some f24 := func24
theorem mP : Callable prog lT := u0 func24
abbrev iM : Nat := 25
theorem xX : prog.funcs[iM]? = some f25 := func25
theorem wM : Callable prog iM := u0 func25
abbrev dO : Nat := 26
theorem wS : prog.funcs[dO]? = some f26 := func26
theorem w9 : Callable prog dO := u0 func26
abbrev Z8 : Nat := 27
theorem sI : prog.funcs[Z8]? = some f27 := func27
theorem R4 : Callable prog Z8 := u0 func27
abbrev jz7 : Nat := 28
abbrev nj5 : Nat := 29
abbrev nq0 : Nat := 30
abbrev iS : Nat := 31
theorem yE : prog.funcs[iS]? = some f31 := func31
theorem kH : Callable prog iS := u0 func31
abbrev mq1 : Nat := 32
abbrev mj6 : Nat := 33
abbrev mz3 : Nat := 34
abbrev jz5 : Nat := 35
abbrev mj4 : Nat := 36
abbrev mj1 : Nat := 37
abbrev mj8 : Nat := 38
abbrev kq8 : Nat := 39
abbrev yO : Nat := 40
abbrev aZ : Nat := 41
theorem uG : prog.funcs[aZ]? = some f41 := func41
theorem sA : Callable prog aZ := u0 func41
abbrev ix3 : Nat := 42
abbrev kq6 : Nat := 43
abbrev gq8 : Nat := 44
abbrev mj7 : Nat := 45
abbrev bq3 : Nat := 46
abbrev kq3 : Nat := 47
abbrev X4 : Nat := 48
theorem qR : prog.funcs[X4]? = some f48 := func48
theorem aV : Callable prog X4 := u0 func48
abbrev lY : Nat := 49
theorem aj3 : prog.funcs[lY]? = some f49 := func49
theorem mR : Callable prog lY := u0 func49
abbrev iR : Nat := 50
theorem yD : prog.funcs[iR]? = some f50 := func50
theorem wP : Callable prog iR := u0 func50
abbrev bD : Nat := 51
theorem uK : prog.funcs[bD]? = some f51 := func51
theorem dL : Callable prog bD := u0 func51
abbrev bH : Nat := 52
theorem uQ : prog.funcs[bH]? = some f52 := func52
theorem sH : Callable prog bH := u0 func52
abbrev dC : Nat := 53
theorem wH : prog.funcs[dC]? = some f53 := func53
theorem X0 : Callable prog dC := u0 func53
abbrev bJ : Nat := 54
theorem uS : prog.funcs[bJ]? = some f54 := func54
theorem G0 : Callable prog bJ := u0 func54
abbrev D7 : Nat := 55
theorem uV : prog.funcs[D7]? = some f55 := func55
theorem sN : Callable prog D7 := u0 func55
abbrev iT : Nat := 56
theorem yF : prog.funcs[iT]? = some f56 := func56
theorem kJ : Callable prog iT := u0 func56
abbrev U7 : Nat := 57
theorem pP : prog.funcs[U7]? = some f57 := func57
theorem I9 : Callable prog U7 := u0 func57
abbrev M1 : Nat := 58
theorem iI : prog.funcs[M1]? = some f58 := func58
theorem gD : Callable prog M1 := u0 func58
abbrev bI : Nat := 59
theorem uR : prog.funcs[bI]? = some f59 := func59
theorem dQ : Callable prog bI := u0 func59
abbrev U8 : Nat := 60
theorem pQ : prog.funcs[U8]? = some f60 := func60
theorem nN : Callable prog U8 := u0 func60
abbrev H8 : Nat := 61
theorem aT : prog.funcs[H8]? = some f61 := func61
theorem K9 : Callable prog H8 := u0 func61
abbrev bK : Nat := 62
theorem uU : prog.funcs[bK]? = some f62 := func62
theorem sM : Callable prog bK := u0 func62
abbrev H2 : Nat := 63
theorem aD : prog.funcs[H2]? = some f63 := func63
theorem X8 : Callable prog H2 := u0 func63
abbrev lJ : Nat := 64
theorem zW : prog.funcs[lJ]? = some f64 := func64
theorem mN : Callable prog lJ := u0 func64
abbrev N7 : Nat := 65
theorem lD : prog.funcs[N7]? = some f65 := func65
theorem V1 : Callable prog N7 := u0 func65
abbrev pL : Nat := 66
theorem ax0 : prog.funcs[pL]? = some f66 := func66
theorem dD : Callable prog pL := u0 func66
abbrev aE : Nat := 67
theorem sL : prog.funcs[aE]? = some f67 := func67
theorem qS : Callable prog aE := u0 func67
abbrev iL : Nat := 68
theorem xW : prog.funcs[iL]? = some f68 := func68
theorem kD : Callable prog iL := u0 func68
abbrev bZ : Nat := 69
theorem zX : prog.funcs[bZ]? = some f69 := func69
theorem xQ : Callable prog bZ := u0 func69
abbrev O6 : Nat := 70
theorem lP : prog.funcs[O6]? = some f70 := func70
theorem V3 : Callable prog O6 := u0 func70
abbrev W9 : Nat := 71
theorem wF : prog.funcs[W9]? = some f71 := func71
theorem uA : Callable prog W9 := u0 func71
abbrev bG : Nat := 72
theorem uP : prog.funcs[bG]? = some f72 := func72
theorem sG : Callable prog bG := u0 func72
abbrev G5 : Nat := 73
theorem X7 : prog.funcs[G5]? = some f73 := func73
theorem X1 : Callable prog G5 := u0 func73
abbrev mj9 : Nat := 74
abbrev iP : Nat := 75
theorem yB : prog.funcs[iP]? = some f75 := func75
theorem kG : Callable prog iP := u0 func75
abbrev rZ : Nat := 76
theorem cq3 : prog.funcs[rZ]? = some f76 := func76
theorem aH : Callable prog rZ := u0 func76
abbrev hx4 : Nat := 77
abbrev kq4 : Nat := 78
abbrev gj0 : Nat := 79
abbrev mj2 : Nat := 80
abbrev cz1 : Nat := 81
abbrev gq9 : Nat := 82
abbrev kq5 : Nat := 83
abbrev bA : Nat := 84
theorem uH : prog.funcs[bA]? = some f84 := func84
theorem dK : Callable prog bA := u0 func84
abbrev X3 : Nat := 85
theorem qP : prog.funcs[X3]? = some f85 := func85
theorem aU : Callable prog X3 := u0 func85
abbrev lU : Nat := 86
theorem aj1 : prog.funcs[lU]? = some f86 := func86
theorem mQ : Callable prog lU := u0 func86
abbrev L4 : Nat := 87
theorem gJ : prog.funcs[L4]? = some f87 := func87
theorem dP : Callable prog L4 := u0 func87
abbrev mz2 : Nat := 88
abbrev dz9 : Nat := 89
abbrev cZ : Nat := 90
theorem wD : prog.funcs[cZ]? = some f90 := func90
theorem gO : Callable prog cZ := u0 func90
abbrev aB : Nat := 91
theorem sK : prog.funcs[aB]? = some f91 := func91
theorem bS : Callable prog aB := u0 func91
abbrev dB : Nat := 92
theorem wG : prog.funcs[dB]? = some f92 := func92
theorem uC : Callable prog dB := u0 func92
abbrev K0 : Nat := 93
theorem dF : prog.funcs[K0]? = some f93 := func93
theorem cB : Callable prog K0 := u0 func93
abbrev dA : Nat := 94
theorem wE : prog.funcs[dA]? = some f94 := func94
theorem W8 : Callable prog dA := u0 func94
abbrev Z5 : Nat := 95
theorem rW : prog.funcs[Z5]? = some f95 := func95
theorem D5 : Callable prog Z5 := u0 func95
abbrev aY : Nat := 96
theorem uF : prog.funcs[aY]? = some f96 := func96
theorem E9 : Callable prog aY := u0 func96
abbrev bB : Nat := 97
theorem uI : prog.funcs[bB]? = some f97 := func97
theorem sB : Callable prog bB := u0 func97
abbrev R3 : Nat := 98
theorem nI : prog.funcs[R3]? = some f98 := func98
theorem lR : Callable prog R3 := u0 func98
abbrev W7 : Nat := 99
theorem qL : prog.funcs[W7]? = some f99 := func99
theorem pH : Callable prog W7 := u0 func99
abbrev dI : Nat := 100
theorem wK : prog.funcs[dI]? = some f100 := func100
theorem uE : Callable prog dI := u0 func100
abbrev K7 : Nat := 101
theorem dX : prog.funcs[K7]? = some f101 := func101
theorem dG : Callable prog K7 := u0 func101
abbrev N8 : Nat := 102
theorem lG : prog.funcs[N8]? = some f102 := func102
theorem jT : Callable prog N8 := u0 func102
abbrev H7 : Nat := 103
theorem aS : prog.funcs[H7]? = some f103 := func103
theorem Z6 : Callable prog H7 := u0 func103
abbrev iN : Nat := 104
theorem xY : prog.funcs[iN]? = some f104 := func104
theorem wN : Callable prog iN := u0 func104
abbrev N9 : Nat := 105
theorem lK : prog.funcs[N9]? = some f105 := func105
theorem jY : Callable prog N9 := u0 func105
abbrev dz8 : Nat := 106
abbrev cx9 : Nat := 107
abbrev cz0 : Nat := 108
abbrev hx3 : Nat := 109
abbrev V2 : Nat := 110
theorem O1 : Callable prog V2 := u0 func110
abbrev N1 : Nat := 111
theorem kI : prog.funcs[N1]? = some f111 := func111
theorem S3 : Callable prog N1 := u0 func111
abbrev mj3 : Nat := 112
abbrev Q8 : Nat := 113
theorem nF : prog.funcs[Q8]? = some f113 := func113
theorem lI : Callable prog Q8 := u0 func113
abbrev U2 : Nat := 114
theorem pJ : prog.funcs[U2]? = some f114 := func114
theorem nE : Callable prog U2 := u0 func114
abbrev Q6 : Nat := 115
theorem mY : prog.funcs[Q6]? = some f115 := func115
theorem lC : Callable prog Q6 := u0 func115
abbrev M8 : Nat := 116
theorem jS : prog.funcs[M8]? = some f116 := func116
theorem iD : Callable prog M8 := u0 func116
abbrev lX : Nat := 117
theorem aj2 : prog.funcs[lX]? = some f117 := func117
theorem xZ : Callable prog lX := u0 func117
abbrev M7 : Nat := 118
theorem jR : prog.funcs[M7]? = some f118 := func118
theorem iC : Callable prog M7 := u0 func118
abbrev Q7 : Nat := 119
theorem nB : prog.funcs[Q7]? = some f119 := func119
theorem lF : Callable prog Q7 := u0 func119
abbrev U1 : Nat := 120
theorem pI : prog.funcs[U1]? = some f120 := func120
theorem nD : Callable prog U1 := u0 func120
abbrev L3 : Nat := 121
theorem rY : prog.funcs[L3]? = some f121 := func121
theorem qM : Callable prog L3 := u0 func121
abbrev O3 : Nat := 122
theorem lL : prog.funcs[O3]? = some f122 := func122
theorem kA : Callable prog O3 := u0 func122
abbrev C3 : Nat := 123
theorem Q9 : prog.funcs[C3]? = some f123 := func123
theorem Q0 : Callable prog C3 := u0 func123
abbrev xD : Nat := 124
abbrev dE : Nat := 125
theorem nG : Callable prog dE := u0 func125
abbrev C7 : Nat := 126
theorem S2 : prog.funcs[C7]? = some f126 := func126
theorem R6 : Callable prog C7 := u0 func126
abbrev sV : Nat := 127
abbrev cz2 : Nat := 128
abbrev dz5 : Nat := 129
abbrev jz4 : Nat := 130
abbrev jz3 : Nat := 131
abbrev jz2 : Nat := 132
abbrev iA : Nat := 133
theorem xP : prog.funcs[iA]? = some f133 := func133
theorem jP : Callable prog iA := u0 func133
abbrev M0 : Nat := 134
theorem iH : prog.funcs[M0]? = some f134 := func134
theorem dZ : Callable prog M0 := u0 func134
abbrev B8 : Nat := 135
theorem jV : prog.funcs[B8]? = some f135 := func135
theorem iE : Callable prog B8 := u0 func135
abbrev K8 : Nat := 136
theorem dY : prog.funcs[K8]? = some f136 := func136
theorem dH : Callable prog K8 := u0 func136
abbrev C5 : Nat := 137
theorem lH : prog.funcs[C5]? = some f137 := func137
theorem jU : Callable prog C5 := u0 func137
abbrev M9 : Nat := 138
theorem jZ : prog.funcs[M9]? = some f138 := func138
theorem iG : Callable prog M9 := u0 func138
abbrev iQ : Nat := 139
theorem yC : prog.funcs[iQ]? = some f139 := func139
theorem wO : Callable prog iQ := u0 func139
abbrev yN : Nat := 140
abbrev bq2 : Nat := 141
abbrev wI : Nat := 142
abbrev xT : Nat := 143
abbrev aq5 : Nat := 144
abbrev mj0 : Nat := 145
abbrev hx2 : Nat := 146
abbrev gx0 : Nat := 147
abbrev dz7 : Nat := 148
abbrev aq4 : Nat := 149
abbrev yP : Nat := 150
abbrev R2 : Nat := 152
theorem nH : prog.funcs[R2]? = some f152 := func152
theorem lN : Callable prog R2 := u0 func152
abbrev O4 : Nat := 153
theorem lM : prog.funcs[O4]? = some f153 := func153
theorem kB : Callable prog O4 := u0 func153
abbrev Z7 : Nat := 154
theorem sD : prog.funcs[Z7]? = some f154 := func154
theorem qQ : Callable prog Z7 := u0 func154
abbrev U5 : Nat := 155
theorem pM : prog.funcs[U5]? = some f155 := func155
theorem nJ : Callable prog U5 := u0 func155
abbrev X2 : Nat := 156
theorem qN : prog.funcs[X2]? = some f156 := func156
theorem pO : Callable prog X2 := u0 func156
abbrev wJ : Nat := 157
abbrev xR : Nat := 158
abbrev bq1 : Nat := 159
abbrev rV : Nat := 160
abbrev bj9 : Nat := 161
abbrev xS : Nat := 162
abbrev cq2 : Nat := 163
abbrev mz1 : Nat := 164
abbrev sU : Nat := 165
abbrev y1 : Nat := 167
theorem A7 : prog.funcs[y1]? = some f167 := func167
theorem nM : Callable prog y1 := u0 func167
abbrev kq7 : Nat := 168
abbrev O7 : Nat := 169
theorem lW : prog.funcs[O7]? = some f169 := func169
theorem kF : Callable prog O7 := u0 func169
abbrev U6 : Nat := 170
theorem pN : prog.funcs[U6]? = some f170 := func170
theorem nL : Callable prog U6 := u0 func170
abbrev H9 : Nat := 171
abbrev pG : Nat := 174
abbrev zU : Nat := 175
abbrev mz0 : Nat := 176
abbrev bq0 : Nat := 178
abbrev ix2 : Nat := 179
abbrev G6 : Nat := 180
theorem lV : prog.funcs[G6]? = some f180 := func180
theorem kE : Callable prog G6 := u0 func180
abbrev B3 : Nat := 181
theorem iO : prog.funcs[B3]? = some f181 := func181
theorem gG : Callable prog B3 := u0 func181
abbrev O5 : Nat := 182
theorem lO : prog.funcs[O5]? = some f182 := func182
theorem kC : Callable prog O5 := u0 func182
abbrev jz6 : Nat := 183
abbrev rU : Nat := 184
abbrev zV : Nat := 185
abbrev cq1 : Nat := 186
abbrev dz6 : Nat := 187
abbrev hx5 : Nat := 188
abbrev gj1 : Nat := 189
abbrev dz4 : Nat := 190
abbrev cq4 : Nat := 191
abbrev E1 : Nat := 211
theorem jQ : prog.funcs[E1]? = some f211 := func211
theorem iB : Callable prog E1 := u0 func211
abbrev H0 : Nat := 212
theorem gF : prog.funcs[H0]? = some f212 := func212
theorem dJ : Callable prog H0 := u0 func212
abbrev I0 : Nat := 213
theorem iK : prog.funcs[I0]? = some f213 := func213
theorem gE : Callable prog I0 := u0 func213
abbrev lQ : Nat := 214
theorem zY : prog.funcs[lQ]? = some f214 := func214
theorem xU : Callable prog lQ := u0 func214
abbrev iJ : Nat := 215
theorem xV : prog.funcs[iJ]? = some f215 := func215
theorem wL : Callable prog iJ := u0 func215
abbrev lS : Nat := 216
theorem zZ : prog.funcs[lS]? = some f216 := func216
theorem mO : Callable prog lS := u0 func216
abbrev bC : Nat := 217
theorem uJ : prog.funcs[bC]? = some f217 := func217
theorem sC : Callable prog bC := u0 func217
abbrev E2 : Nat := 218
theorem jW : prog.funcs[E2]? = some f218 := func218
theorem iF : Callable prog E2 := u0 func218
abbrev H5 : Nat := 219
theorem mZ : prog.funcs[H5]? = some f219 := func219
theorem lE : Callable prog H5 := u0 func219
abbrev ix4 : Nat := 229
end F
namespace T
abbrev y2 : Nat := 3
theorem cI : prog.underlying y2 = some (.int .i64) := underlying3
theorem k6 : Sz prog y2 1 := aW
theorem b5 : NoR prog y2 := ⟨_, underlying3, rfl⟩
abbrev kV : Nat := 4
theorem J9 : Sz prog kV 1 := aW
theorem C2 : NoR prog kV := ⟨_, underlying4, rfl⟩
abbrev nq5 : Nat := 5
theorem nj1 : prog.underlying nq5 = some (.int .u8) := underlying5
abbrev J1 : Nat := 9
theorem C4 : prog.underlying J1 = some (.string) := underlying9
theorem kU : Sz prog J1 1 := aW
theorem j7 : NoR prog J1 := ⟨_, underlying9, rfl⟩
abbrev kx5 : Nat := 21
theorem yZ : prog.underlying kx5 = some (.int .i32) := underlying21
abbrev yK : Nat := 22
theorem j2 : prog.underlying yK = some (.slice 3) := underlying22
theorem gx8 : Sz prog yK 1 := aW
theorem d9 : NoR prog yK := ⟨_, underlying22, rfl⟩
theorem I5 : ElT prog yK 3 1 8 := ElT.of (z := (.int .i64 0)) underlying22 n9 rfl (by decide)
abbrev bx8 : Nat := 23
abbrev tC : Nat := 25
theorem O9 : prog.underlying tC = some (.slice 9) := underlying25
theorem qV : Sz prog tC 1 := aW
theorem L8 : NoR prog tC := ⟨_, underlying25, rfl⟩
theorem zC : ElT prog tC 9 1 16 := ElT.of (z := (.string ⟨#[]⟩)) underlying25 n9 rfl (by decide)
abbrev mx7 : Nat := 31
abbrev nj2 : Nat := 32
abbrev nq6 : Nat := 38
abbrev nj8 : Nat := 42
abbrev nj9 : Nat := 44
abbrev W3 : Nat := 48
theorem u1 : prog.underlying W3 = some (.slice 103) := underlying48
theorem tB : Sz prog W3 1 := aW
theorem i2 : NoR prog W3 := ⟨_, underlying48, rfl⟩
theorem tD : ElT prog W3 103 2 24 := ElT.of (z := (.agg #[(.string ⟨#[]⟩), (.int .i64 0)])) underlying48 n9 rfl (by decide)
abbrev aG : Nat := 49
theorem l4 : prog.underlying aG = some (.slice 62) := underlying49
theorem iY : Sz prog aG 1 := aW
theorem b8 : NoR prog aG := ⟨_, underlying49, rfl⟩
theorem iZ : ElT prog aG 62 4 56 := ElT.of (z := (.agg #[(.string ⟨#[]⟩), (.int .i64 0), (.int .i64 0), (.slice none 0 0)])) underlying49 n9 rfl (by decide)
abbrev m5 : Nat := 51
theorem j0 : Sz prog m5 2 := aW
theorem i9 : IsR prog m5 := ⟨_, underlying51, rfl⟩
abbrev gq5 : Nat := 55
abbrev J3 : Nat := 58
theorem aJ : prog.underlying J3 = some (.slice 4) := underlying58
theorem P1 : Sz prog J3 1 := aW
theorem V9 : NoR prog J3 := ⟨_, underlying58, rfl⟩
theorem bx4 : ElT prog J3 4 1 1 := ElT.of (z := (.bool false)) underlying58 n9 rfl (by decide)
abbrev aN : Nat := 62
theorem m8 : Sz prog aN 4 := aW
theorem A9 : IsR prog aN := ⟨_, underlying62, rfl⟩
abbrev hQ : Nat := 63
theorem mH : prog.underlying hQ = some (.slice 248) := underlying63
theorem qY : NoR prog hQ := ⟨_, underlying63, rfl⟩
abbrev H1 : Nat := 64
theorem B5 : prog.underlying H1 = some (.slice 68) := underlying64
theorem qW : Sz prog H1 1 := aW
theorem y7 : NoR prog H1 := ⟨_, underlying64, rfl⟩
theorem qX : ElT prog H1 68 5 48 := ElT.of (z := (.agg #[(.string ⟨#[]⟩), (.int .i64 0), (.int .i64 0), (.int .i64 0), (.bool false)])) underlying64 n9 rfl (by decide)
abbrev C8 : Nat := 66
theorem B0 : Sz prog C8 7 := aW
theorem C9 : IsR prog C8 := ⟨_, underlying66, rfl⟩
abbrev I1 : Nat := 68
theorem q9 : Sz prog I1 5 := aW
theorem y4 : IsR prog I1 := ⟨_, underlying68, rfl⟩
abbrev gx7 : Nat := 73
theorem yY : prog.underlying gx7 = some (.int .u64) := underlying73
theorem pU : Sz prog gx7 1 := aW
theorem n3 : NoR prog gx7 := ⟨_, underlying73, rfl⟩
abbrev nR : Nat := 75
abbrev iz5 : Nat := 77
abbrev ij3 : Nat := 87
abbrev aq3 : Nat := 90
abbrev ax9 : Nat := 94
abbrev kW : Nat := 103
theorem C1 : Sz prog kW 2 := aW
theorem Y8 : IsR prog kW := ⟨_, underlying103, rfl⟩
abbrev bV : Nat := 108
theorem D6 : Sz prog bV 3 := aW
theorem K3 : IsR prog bV := ⟨_, underlying108, rfl⟩
abbrev X6 : Nat := 109
theorem Q1 : NoR prog X6 := ⟨_, underlying109, rfl⟩
abbrev u3 : Nat := 111
theorem R7 : Sz prog u3 5 := aW
abbrev nV : Nat := 112
theorem J8 : prog.underlying nV = some (.slice 58) := underlying112
theorem zA : Sz prog nV 1 := aW
theorem vJ : NoR prog nV := ⟨_, underlying112, rfl⟩
abbrev nj0 : Nat := 114
theorem vH : prog.underlying nj0 = some (.int .u64) := underlying114
abbrev aq7 : Nat := 115
theorem xK : prog.underlying aq7 = some (.int .u64) := underlying115
abbrev kq1 : Nat := 118
abbrev iz8 : Nat := 124
abbrev wZ : Nat := 133
theorem jA : NoR prog wZ := ⟨_, underlying133, rfl⟩
abbrev ax8 : Nat := 135
abbrev zB : Nat := 136
abbrev mx6 : Nat := 138
abbrev nq4 : Nat := 139
abbrev kq2 : Nat := 141
abbrev sS : Nat := 144
abbrev ij4 : Nat := 150
abbrev L9 : Nat := 156
theorem aI : prog.underlying L9 = some (.slice 176) := underlying156
theorem mU : Sz prog L9 1 := aW
theorem m9 : NoR prog L9 := ⟨_, underlying156, rfl⟩
theorem mV : ElT prog L9 176 1 1 := ElT.of (z := (.int .u8 0)) underlying156 n9 rfl (by decide)
abbrev S6 : Nat := 157
theorem B4 : prog.underlying S6 = some (.slice 161) := underlying157
theorem S8 : Sz prog S6 1 := aW
theorem d7 : NoR prog S6 := ⟨_, underlying157, rfl⟩
theorem S9 : ElT prog S6 161 1 16 := ElT.of (z := .nilIface) underlying157 n9 rfl (by decide)
abbrev gZ : Nat := 159
abbrev M5 : Nat := 161
theorem P0 : Sz prog M5 1 := aW
theorem L7 : NoR prog M5 := ⟨_, underlying161, rfl⟩
abbrev E4 : Nat := 163
theorem qE : Sz prog E4 1 := aW
abbrev G3 : Nat := 166
abbrev J2 : Nat := 171
abbrev E5 : Nat := 174
theorem bN : Sz prog E5 2 := aW
abbrev Y7 : Nat := 176
theorem bM : Sz prog Y7 1 := aW
theorem Y3 : NoR prog Y7 := ⟨_, underlying176, rfl⟩
abbrev nq2 : Nat := 179
abbrev xA : Nat := 182
abbrev cx6 : Nat := 185
abbrev iz7 : Nat := 186
abbrev kx4 : Nat := 188
abbrev nT : Nat := 189
abbrev vI : Nat := 191
abbrev nS : Nat := 196
abbrev kx3 : Nat := 197
abbrev S5 : Nat := 200
theorem aK : NoR prog S5 := ⟨_, underlying200, rfl⟩
abbrev bx3 : Nat := 209
abbrev cx7 : Nat := 211
abbrev nj6 : Nat := 213
abbrev dj1 : Nat := 216
abbrev gx9 : Nat := 218
abbrev gq6 : Nat := 227
abbrev gz0 : Nat := 229
abbrev nq1 : Nat := 236
abbrev nq3 : Nat := 242
abbrev nj7 : Nat := 248
abbrev dj0 : Nat := 252
abbrev G4 : Nat := 254
abbrev bz0 : Nat := 261
abbrev Y0 : Nat := 263
theorem cN : NoR prog Y0 := ⟨_, underlying263, rfl⟩
abbrev B1 : Nat := 264
theorem V5 : Sz prog B1 1 := aW
theorem R8 : NoR prog B1 := ⟨_, underlying264, rfl⟩
abbrev cz9 : Nat := 266
abbrev mx9 : Nat := 270
abbrev gq4 : Nat := 272
abbrev az0 : Nat := 273
abbrev bx9 : Nat := 274
abbrev nj3 : Nat := 278
abbrev mx8 : Nat := 279
abbrev mz9 : Nat := 282
abbrev cz8 : Nat := 284
theorem m3 (p : Addr) (w : World) : (Instr.fieldAt 51 (.pointer (some p)) 0).run prog w = .ok (.pointer (some (p.add 0))) w := n9
theorem d8 (p : Addr) (w : World) : (Instr.fieldAt 51 (.pointer (some p)) 1).run prog w = .ok (.pointer (some (p.add 1))) w := n9
theorem u2 (p : Addr) (w : World) : (Instr.fieldAt 62 (.pointer (some p)) 0).run prog w = .ok (.pointer (some (p.add 0))) w := n9
theorem l6 (p : Addr) (w : World) : (Instr.fieldAt 62 (.pointer (some p)) 1).run prog w = .ok (.pointer (some (p.add 1))) w := n9
theorem r6 (p : Addr) (w : World) : (Instr.fieldAt 62 (.pointer (some p)) 2).run prog w = .ok (.pointer (some (p.add 2))) w := n9
theorem n8 (p : Addr) (w : World) : (Instr.fieldAt 62 (.pointer (some p)) 3).run prog w = .ok (.pointer (some (p.add 3))) w := n9
theorem L6 (p : Addr) (w : World) : (Instr.fieldAt 66 (.pointer (some p)) 0).run prog w = .ok (.pointer (some (p.add 0))) w := n9
theorem cL (p : Addr) (w : World) : (Instr.fieldAt 66 (.pointer (some p)) 1).run prog w = .ok (.pointer (some (p.add 1))) w := n9
theorem cK (p : Addr) (w : World) : (Instr.fieldAt 66 (.pointer (some p)) 2).run prog w = .ok (.pointer (some (p.add 2))) w := n9
theorem y0 (p : Addr) (w : World) : (Instr.fieldAt 66 (.pointer (some p)) 3).run prog w = .ok (.pointer (some (p.add 3))) w := n9
theorem cJ (p : Addr) (w : World) : (Instr.fieldAt 66 (.pointer (some p)) 4).run prog w = .ok (.pointer (some (p.add 5))) w := n9
theorem u5 (p : Addr) (w : World) : (Instr.fieldAt 66 (.pointer (some p)) 5).run prog w = .ok (.pointer (some (p.add 6))) w := n9
theorem A5 (p : Addr) (w : World) : (Instr.fieldAt 68 (.pointer (some p)) 0).run prog w = .ok (.pointer (some (p.add 0))) w := n9
theorem E7 (p : Addr) (w : World) : (Instr.fieldAt 68 (.pointer (some p)) 1).run prog w = .ok (.pointer (some (p.add 1))) w := n9
theorem E6 (p : Addr) (w : World) : (Instr.fieldAt 68 (.pointer (some p)) 2).run prog w = .ok (.pointer (some (p.add 2))) w := n9
theorem r5 (p : Addr) (w : World) : (Instr.fieldAt 68 (.pointer (some p)) 3).run prog w = .ok (.pointer (some (p.add 3))) w := n9
theorem cM (p : Addr) (w : World) : (Instr.fieldAt 68 (.pointer (some p)) 4).run prog w = .ok (.pointer (some (p.add 4))) w := n9
theorem D9 (p : Addr) (w : World) : (Instr.fieldAt 75 (.pointer (some p)) 0).run prog w = .ok (.pointer (some (p.add 0))) w := n9
theorem u6 (p : Addr) (w : World) : (Instr.fieldAt 75 (.pointer (some p)) 1).run prog w = .ok (.pointer (some (p.add 1))) w := n9
theorem j5 (p : Addr) (w : World) : (Instr.fieldAt 75 (.pointer (some p)) 2).run prog w = .ok (.pointer (some (p.add 2))) w := n9
theorem G8 (p : Addr) (w : World) : (Instr.fieldAt 103 (.pointer (some p)) 0).run prog w = .ok (.pointer (some (p.add 0))) w := n9
theorem B6 (p : Addr) (w : World) : (Instr.fieldAt 103 (.pointer (some p)) 1).run prog w = .ok (.pointer (some (p.add 1))) w := n9
theorem r7 (p : Addr) (w : World) : (Instr.fieldAt 108 (.pointer (some p)) 0).run prog w = .ok (.pointer (some (p.add 0))) w := n9
theorem y5 (p : Addr) (w : World) : (Instr.fieldAt 108 (.pointer (some p)) 2).run prog w = .ok (.pointer (some (p.add 2))) w := n9
theorem l8 (p : Addr) (w : World) : (Instr.fieldAt 111 (.pointer (some p)) 0).run prog w = .ok (.pointer (some (p.add 0))) w := n9
theorem n6 (p : Addr) (w : World) : (Instr.fieldAt 111 (.pointer (some p)) 1).run prog w = .ok (.pointer (some (p.add 3))) w := n9
theorem G7 (p : Addr) (w : World) : (Instr.fieldAt 111 (.pointer (some p)) 2).run prog w = .ok (.pointer (some (p.add 4))) w := n9
theorem L5 (p : Addr) (w : World) : (Instr.fieldAt 159 (.pointer (some p)) 0).run prog w = .ok (.pointer (some (p.add 0))) w := n9
theorem A3 (p : Addr) (w : World) : (Instr.fieldAt 159 (.pointer (some p)) 1).run prog w = .ok (.pointer (some (p.add 2))) w := n9
theorem l3 (p : Addr) (w : World) : (Instr.fieldAt 159 (.pointer (some p)) 2).run prog w = .ok (.pointer (some (p.add 3))) w := n9
theorem I8 (p : Addr) (w : World) : (Instr.fieldAt 163 (.pointer (some p)) 0).run prog w = .ok (.pointer (some (p.add 0))) w := n9
theorem K2 (p : Addr) (w : World) : (Instr.fieldAt 166 (.pointer (some p)) 0).run prog w = .ok (.pointer (some (p.add 0))) w := n9
theorem K1 (p : Addr) (w : World) : (Instr.fieldAt 166 (.pointer (some p)) 1).run prog w = .ok (.pointer (some (p.add 7))) w := n9
theorem Y2 (p : Addr) (w : World) : (Instr.fieldAt 174 (.pointer (some p)) 0).run prog w = .ok (.pointer (some (p.add 0))) w := n9
theorem Y1 (p : Addr) (w : World) : (Instr.fieldAt 174 (.pointer (some p)) 1).run prog w = .ok (.pointer (some (p.add 1))) w := n9
theorem bO (p : Addr) (w : World) : (Instr.fieldAt 196 (.pointer (some p)) 0).run prog w = .ok (.pointer (some (p.add 0))) w := n9
theorem iz6 (w : World) : (Instr.alloc 3 true (.tuple #[])).run prog w = .ok (.pointer (some ⟨w.heap.size, 0, none⟩)) (w.alloc (.cells #[(.int .i64 0)] 3 (0, 0))) := n9
theorem zF (w : World) : (Instr.alloc 4 true (.tuple #[])).run prog w = .ok (.pointer (some ⟨w.heap.size, 0, none⟩)) (w.alloc (.cells #[(.bool false)] 4 (0, 0))) := n9
theorem zE (w : World) : (Instr.alloc 25 true (.tuple #[])).run prog w = .ok (.pointer (some ⟨w.heap.size, 0, none⟩)) (w.alloc (.cells #[(.slice none 0 0)] 25 (0, 0))) := n9
theorem P3 (w : World) : (Instr.alloc 51 true (.tuple #[])).run prog w = .ok (.pointer (some ⟨w.heap.size, 0, none⟩)) (w.alloc (.cells #[(.slice none 0 0), (.slice none 0 0)] 51 (0, 0))) := n9
theorem bx7 (w : World) : (Instr.alloc 58 true (.tuple #[])).run prog w = .ok (.pointer (some ⟨w.heap.size, 0, none⟩)) (w.alloc (.cells #[(.slice none 0 0)] 58 (0, 0))) := n9
theorem W1 (w : World) : (Instr.alloc 62 true (.tuple #[])).run prog w = .ok (.pointer (some ⟨w.heap.size, 0, none⟩)) (w.alloc (.cells #[(.string ⟨#[]⟩), (.int .i64 0), (.int .i64 0), (.slice none 0 0)] 62 (0, 0))) := n9
theorem jD (w : World) : (Instr.alloc 66 true (.tuple #[])).run prog w = .ok (.pointer (some ⟨w.heap.size, 0, none⟩)) (w.alloc (.cells #[(.int .i64 0), (.int .i64 0), (.int .i64 0), (.slice none 0 0), (.slice none 0 0), (.slice none 0 0), (.slice none 0 0)] 66 (0, 0))) := n9
theorem jE (w : World) : (Instr.alloc 68 true (.tuple #[])).run prog w = .ok (.pointer (some ⟨w.heap.size, 0, none⟩)) (w.alloc (.cells #[(.string ⟨#[]⟩), (.int .i64 0), (.int .i64 0), (.int .i64 0), (.bool false)] 68 (0, 0))) := n9
theorem mI (w : World) : (Instr.alloc 103 true (.tuple #[])).run prog w = .ok (.pointer (some ⟨w.heap.size, 0, none⟩)) (w.alloc (.cells #[(.string ⟨#[]⟩), (.int .i64 0)] 103 (0, 0))) := n9
theorem xL (w : World) : (Instr.alloc 108 true (.tuple #[])).run prog w = .ok (.pointer (some ⟨w.heap.size, 0, none⟩)) (w.alloc (.cells #[(.slice none 0 0), (.int .i64 0), (.int .i64 0)] 108 (0, 0))) := n9
theorem R9 (w : World) : (Instr.alloc 111 true (.tuple #[])).run prog w = .ok (.pointer (some ⟨w.heap.size, 0, none⟩)) (w.alloc (.cells #[(.slice none 0 0), (.int .i64 0), (.int .i64 0), (.bool false), .nilFunc] 111 (0, 0))) := n9
theorem zG (w : World) : (Instr.alloc 112 true (.tuple #[])).run prog w = .ok (.pointer (some ⟨w.heap.size, 0, none⟩)) (w.alloc (.cells #[(.slice none 0 0)] 112 (0, 0))) := n9
theorem qI (w : World) : (Instr.alloc 163 true (.tuple #[])).run prog w = .ok (.pointer (some ⟨w.heap.size, 0, none⟩)) (w.alloc (.cells #[(.int .i64 0)] 163 (0, 0))) := n9
theorem bR (w : World) : (Instr.alloc 174 true (.tuple #[])).run prog w = .ok (.pointer (some ⟨w.heap.size, 0, none⟩)) (w.alloc (.cells #[(.int .i64 0), (.slice none 0 0)] 174 (0, 0))) := n9
theorem V6 (w : World) : (Instr.alloc 264 true (.tuple #[])).run prog w = .ok (.pointer (some ⟨w.heap.size, 0, none⟩)) (w.alloc (.cells #[.nilFunc] 264 (0, 0))) := n9
theorem nU (x1 : Option Addr) (x2 : Nat) (x3 : Nat) (x4 : Option Addr) (x5 : Nat) (x6 : Nat) (w : World) : (Instr.build 51 #[(0, (.slice x1 x2 x3)), (1, (.slice x4 x5 x6))]).run prog w = .ok (.agg #[(.slice x1 x2 x3), (.slice x4 x5 x6)]) w := n9
theorem aM (x1 : ByteArray) (x2 : Int) (x3 : Int) (w : World) : (Instr.build 62 #[(0, (.string x1)), (1, (.int .i64 x2)), (2, (.int .i64 x3))]).run prog w = .ok (.agg #[(.string x1), (.int .i64 x2), (.int .i64 x3), (.slice none 0 0)]) w := n9
theorem rB (x1 : ByteArray) (x2 : Int) (w : World) : (Instr.build 62 #[(0, (.string x1)), (2, (.int .i64 x2))]).run prog w = .ok (.agg #[(.string x1), (.int .i64 0), (.int .i64 x2), (.slice none 0 0)]) w := n9
theorem hJ (x1 : Int) (x2 : Int) (x3 : Int) (x4 : Option Addr) (x5 : Nat) (x6 : Nat) (x7 : Option Addr) (x8 : Nat) (x9 : Nat) (w : World) : (Instr.build 66 #[(0, (.int .i64 x1)), (1, (.int .i64 x2)), (2, (.int .i64 x3)), (3, (.agg #[(.slice x4 x5 x6), (.slice x7 x8 x9)]))]).run prog w = .ok (.agg #[(.int .i64 x1), (.int .i64 x2), (.int .i64 x3), (.slice x4 x5 x6), (.slice x7 x8 x9), (.slice none 0 0), (.slice none 0 0)]) w := n9
theorem cP (x1 : Int) (x2 : Int) (x3 : Int) (x4 : Option Addr) (x5 : Nat) (x6 : Nat) (x7 : Option Addr) (x8 : Nat) (x9 : Nat) (x10 : Option Addr) (x11 : Nat) (x12 : Nat) (w : World) : (Instr.build 66 #[(0, (.int .i64 x1)), (1, (.int .i64 x2)), (2, (.int .i64 x3)), (3, (.agg #[(.slice x4 x5 x6), (.slice x7 x8 x9)])), (5, (.slice x10 x11 x12))]).run prog w = .ok (.agg #[(.int .i64 x1), (.int .i64 x2), (.int .i64 x3), (.slice x4 x5 x6), (.slice x7 x8 x9), (.slice none 0 0), (.slice x10 x11 x12)]) w := n9
theorem W0 (x1 : ByteArray) (x2 : Int) (x3 : Int) (w : World) : (Instr.build 68 #[(0, (.string x1)), (2, (.int .i64 x2)), (3, (.int .i64 x3))]).run prog w = .ok (.agg #[(.string x1), (.int .i64 0), (.int .i64 x2), (.int .i64 x3), (.bool false)]) w := n9
theorem bW (x1 : Option Addr) (x2 : Nat) (x3 : Nat) (x4 : Int) (w : World) : (Instr.build 75 #[(0, (.slice x1 x2 x3)), (2, (.int .u64 x4))]).run prog w = .ok (.agg #[(.slice x1 x2 x3), (.int .i64 0), (.int .u64 x4)]) w := n9
theorem bQ (x1 : ByteArray) (x2 : Int) (w : World) : (Instr.build 103 #[(0, (.string x1)), (1, (.int .i64 x2))]).run prog w = .ok (.agg #[(.string x1), (.int .i64 x2)]) w := n9
theorem tI (x1 : Option Addr) (x2 : Nat) (x3 : Nat) (w : World) : (Instr.build 108 #[(0, (.slice x1 x2 x3))]).run prog w = .ok (.agg #[(.slice x1 x2 x3), (.int .i64 0), (.int .i64 0)]) w := n9
theorem P2 (x1 : Fn) (x2 : Array Value) (x3 : Array Value) (w : World) : (Instr.build 111 #[(2, (.func x1 x2 x3))]).run prog w = .ok (.agg #[(.slice none 0 0), (.int .i64 0), (.int .i64 0), (.bool false), (.func x1 x2 x3)]) w := n9
theorem rA (x1 : Option Addr) (x2 : Nat) (x3 : Nat) (x4 : Option Addr) (x5 : Nat) (x6 : Nat) (w : World) : (Instr.build 159 #[(0, (.agg #[(.slice x1 x2 x3), (.slice x4 x5 x6)]))]).run prog w = .ok (.agg #[(.slice x1 x2 x3), (.slice x4 x5 x6), (.slice none 0 0), (.slice none 0 0)]) w := n9
theorem mW (x1 : Int) (w : World) : (Instr.build 163 #[(0, (.int .i64 x1))]).run prog w = .ok (.agg #[(.int .i64 x1)]) w := n9
theorem qG (x1 : Int) (x2 : Int) (x3 : Int) (x4 : Option Addr) (x5 : Nat) (x6 : Nat) (x7 : Option Addr) (x8 : Nat) (x9 : Nat) (x10 : Option Addr) (x11 : Nat) (x12 : Nat) (x13 : Option Addr) (x14 : Nat) (x15 : Nat) (w : World) : (Instr.build 166 #[(0, (.agg #[(.int .i64 x1), (.int .i64 x2), (.int .i64 x3), (.slice x4 x5 x6), (.slice x7 x8 x9), (.slice x10 x11 x12), (.slice x13 x14 x15)]))]).run prog w = .ok (.agg #[(.int .i64 x1), (.int .i64 x2), (.int .i64 x3), (.slice x4 x5 x6), (.slice x7 x8 x9), (.slice x10 x11 x12), (.slice x13 x14 x15), (.slice none 0 0)]) w := n9
theorem qH  (w : World) : (Instr.build 171 #[]).run prog w = .ok (.agg #[]) w := n9
theorem jC (x1 : Int) (x2 : Option Addr) (x3 : Nat) (x4 : Nat) (w : World) : (Instr.build 174 #[(0, (.int .i64 x1)), (1, (.slice x2 x3 x4))]).run prog w = .ok (.agg #[(.int .i64 x1), (.slice x2 x3 x4)]) w := n9
theorem qF (x1 : Option Addr) (x2 : Nat) (x3 : Nat) (w : World) : (Instr.build 196 #[(0, (.slice x1 x2 x3))]).run prog w = .ok (.agg #[(.slice x1 x2 x3)]) w := n9
theorem w6 (x1 : Int) (w : World) : (Instr.buildSlice 22 1 #[(0, (.int .i64 x1))]).run prog w = .ok (.slice (some ⟨w.heap.size, 0, none⟩) 1 1) (w.alloc (.cells #[(.int .i64 x1)] 3 (0, 0))) := n9
theorem tH (x1 : Int) (x2 : Int) (w : World) : (Instr.buildSlice 22 2 #[(0, (.int .i64 x1)), (1, (.int .i64 x2))]).run prog w = .ok (.slice (some ⟨w.heap.size, 0, none⟩) 2 2) (w.alloc (.cells #[(.int .i64 x1), (.int .i64 x2)] 3 (0, 0))) := n9
theorem tG (x1 : Int) (x2 : Int) (x3 : Int) (w : World) : (Instr.buildSlice 22 3 #[(0, (.int .i64 x1)), (1, (.int .i64 x2)), (2, (.int .i64 x3))]).run prog w = .ok (.slice (some ⟨w.heap.size, 0, none⟩) 3 3) (w.alloc (.cells #[(.int .i64 x1), (.int .i64 x2), (.int .i64 x3)] 3 (0, 0))) := n9
theorem bx6 (x1 : Int) (x2 : Int) (x3 : Int) (x4 : Int) (x5 : Int) (w : World) : (Instr.buildSlice 22 5 #[(0, (.int .i64 x1)), (1, (.int .i64 x2)), (2, (.int .i64 x3)), (3, (.int .i64 x4)), (4, (.int .i64 x5))]).run prog w = .ok (.slice (some ⟨w.heap.size, 0, none⟩) 5 5) (w.alloc (.cells #[(.int .i64 x1), (.int .i64 x2), (.int .i64 x3), (.int .i64 x4), (.int .i64 x5)] 3 (0, 0))) := n9
theorem tF (x1 : ByteArray) (w : World) : (Instr.buildSlice 25 1 #[(0, (.string x1))]).run prog w = .ok (.slice (some ⟨w.heap.size, 0, none⟩) 1 1) (w.alloc (.cells #[(.string x1)] 9 (0, 0))) := n9
theorem tE (x1 : ByteArray) (x2 : ByteArray) (w : World) : (Instr.buildSlice 25 2 #[(0, (.string x1)), (1, (.string x2))]).run prog w = .ok (.slice (some ⟨w.heap.size, 0, none⟩) 2 2) (w.alloc (.cells #[(.string x1), (.string x2)] 9 (0, 0))) := n9
theorem bx5 (x1 : ByteArray) (x2 : ByteArray) (x3 : ByteArray) (x4 : ByteArray) (x5 : ByteArray) (x6 : ByteArray) (x7 : ByteArray) (x8 : ByteArray) (x9 : ByteArray) (w : World) : (Instr.buildSlice 25 9 #[(0, (.string x1)), (1, (.string x2)), (2, (.string x3)), (3, (.string x4)), (4, (.string x5)), (5, (.string x6)), (6, (.string x7)), (7, (.string x8)), (8, (.string x9))]).run prog w = .ok (.slice (some ⟨w.heap.size, 0, none⟩) 9 9) (w.alloc (.cells #[(.string x1), (.string x2), (.string x3), (.string x4), (.string x5), (.string x6), (.string x7), (.string x8), (.string x9)] 9 (0, 0))) := n9
theorem aq6 (x1 : ByteArray) (x2 : ByteArray) (x3 : ByteArray) (x4 : ByteArray) (x5 : ByteArray) (x6 : ByteArray) (x7 : ByteArray) (x8 : ByteArray) (x9 : ByteArray) (x10 : ByteArray) (x11 : ByteArray) (x12 : ByteArray) (x13 : ByteArray) (x14 : ByteArray) (x15 : ByteArray) (x16 : ByteArray) (w : World) : (Instr.buildSlice 25 16 #[(0, (.string x1)), (1, (.string x2)), (2, (.string x3)), (3, (.string x4)), (4, (.string x5)), (5, (.string x6)), (6, (.string x7)), (7, (.string x8)), (8, (.string x9)), (9, (.string x10)), (10, (.string x11)), (11, (.string x12)), (12, (.string x13)), (13, (.string x14)), (14, (.string x15)), (15, (.string x16))]).run prog w = .ok (.slice (some ⟨w.heap.size, 0, none⟩) 16 16) (w.alloc (.cells #[(.string x1), (.string x2), (.string x3), (.string x4), (.string x5), (.string x6), (.string x7), (.string x8), (.string x9), (.string x10), (.string x11), (.string x12), (.string x13), (.string x14), (.string x15), (.string x16)] 9 (0, 0))) := n9
theorem bP (x1 : ByteArray) (x2 : Int) (w : World) : (Instr.buildSlice 48 1 #[(0, (.agg #[(.string x1), (.int .i64 x2)]))]).run prog w = .ok (.slice (some ⟨w.heap.size, 0, none⟩) 1 1) (w.alloc (.cells #[(.string x1), (.int .i64 x2)] 103 (0, 0))) := n9
theorem cO (x1 : ByteArray) (x2 : Int) (x3 : Int) (x4 : Option Addr) (x5 : Nat) (x6 : Nat) (w : World) : (Instr.buildSlice 49 1 #[(0, (.agg #[(.string x1), (.int .i64 x2), (.int .i64 x3), (.slice x4 x5 x6)]))]).run prog w = .ok (.slice (some ⟨w.heap.size, 0, none⟩) 1 1) (w.alloc (.cells #[(.string x1), (.int .i64 x2), (.int .i64 x3), (.slice x4 x5 x6)] 62 (0, 0))) := n9
theorem qZ (x1 : ByteArray) (x2 : Int) (x3 : Int) (x4 : Option Addr) (x5 : Nat) (x6 : Nat) (x7 : ByteArray) (x8 : Int) (x9 : Int) (x10 : Option Addr) (x11 : Nat) (x12 : Nat) (w : World) : (Instr.buildSlice 49 2 #[(0, (.agg #[(.string x1), (.int .i64 x2), (.int .i64 x3), (.slice x4 x5 x6)])), (1, (.agg #[(.string x7), (.int .i64 x8), (.int .i64 x9), (.slice x10 x11 x12)]))]).run prog w = .ok (.slice (some ⟨w.heap.size, 0, none⟩) 2 2) (w.alloc (.cells #[(.string x1), (.int .i64 x2), (.int .i64 x3), (.slice x4 x5 x6), (.string x7), (.int .i64 x8), (.int .i64 x9), (.slice x10 x11 x12)] 62 (0, 0))) := n9
theorem zD (x1 : Bool) (w : World) : (Instr.buildSlice 58 1 #[(0, (.bool x1))]).run prog w = .ok (.slice (some ⟨w.heap.size, 0, none⟩) 1 1) (w.alloc (.cells #[(.bool x1)] 4 (0, 0))) := n9
theorem aL (x1 : ByteArray) (x2 : Int) (x3 : Int) (x4 : Int) (x5 : Bool) (w : World) : (Instr.buildSlice 64 1 #[(0, (.agg #[(.string x1), (.int .i64 x2), (.int .i64 x3), (.int .i64 x4), (.bool x5)]))]).run prog w = .ok (.slice (some ⟨w.heap.size, 0, none⟩) 1 1) (w.alloc (.cells #[(.string x1), (.int .i64 x2), (.int .i64 x3), (.int .i64 x4), (.bool x5)] 68 (0, 0))) := n9
theorem jB (x1 : Int) (w : World) : (Instr.buildSlice 156 1 #[(0, (.int .u8 x1))]).run prog w = .ok (.slice (some ⟨w.heap.size, 0, none⟩) 1 1) (w.alloc (.cells #[(.int .u8 x1)] 176 (0, 0))) := n9
theorem N3 (x1 : Nat) (x2 : Value) (w : World) : (Instr.buildSlice 157 1 #[(0, (.iface x1 x2))]).run prog w = .ok (.slice (some ⟨w.heap.size, 0, none⟩) 1 1) (w.alloc (.cells #[(.iface x1 x2)] 161 (0, 0))) := n9
end T
end Go.Proofs.YtpihanmcnmlodaaGreatDoor
end
section
namespace Go.W
universe u
open Go Go.RowKit
class El (α : Type) extends Inhabited α where
  cells : α → List Value
  sz : Nat
  len : ∀ a, (cells a).length = sz
  one : ∀ a, ∀ u ∈ cells a, u.oneCell' = true
def rows {α : Type} [El α] (l : List α) : List Value := l.flatMap El.cells
instance : El Str where
  default := []
  cells s := [str s]
  sz := 1
  len _ := rfl
  one a u h := by simp at h; subst h; rfl
instance : El Int where
  default := 0
  cells n := [int n]
  sz := 1
  len _ := rfl
  one a u h := by simp at h; subst h; rfl
instance : El UInt8 where
  default := 0
  cells n := [.int .u8 n.toNat]
  sz := 1
  len _ := rfl
  one a u h := by simp at h; subst h; rfl
abbrev Mk := Int × Int × Str
instance : El Mk where
  default := (0, 0, [])
  cells m := [int m.1, int m.2.1, str m.2.2]
  sz := 3
  len _ := rfl
  one a u h := by simp at h; rcases h with h | h | h <;> subst h <;> rfl
structure Sl (α : Type) where
  a : Option Addr
  c : Nat
  l : List α
instance {α : Type} : El (Sl α) where
  default := ⟨none, 0, []⟩
  cells p := [.slice p.a p.l.length p.c]
  sz := 1
  len _ := rfl
  one a u h := by simp at h; subst h; rfl
section
variable {α : Type} [El α]
theorem zJ : rows ([] : List α) = [] := rfl
theorem Z0 (a : α) (l : List α) : rows (a :: l) = El.cells a ++ rows l := rfl
theorem r8 (l l' : List α) : rows (l ++ l') = rows l ++ rows l' := by simp [rows]
theorem S1 (l : List α) : (rows l).length = l.length * El.sz α := by
  induction l with
  | nil => simp [zJ]
  | cons a l ih => rw [Z0, List.length_append, El.len, ih, List.length_cons, Nat.add_mul, Nat.one_mul, Nat.add_comm]
theorem D0 (l : List α) : ∀ u ∈ rows l, u.oneCell' = true := by
  intro u hu; obtain ⟨a, _, h⟩ := List.mem_flatMap.1 hu; exact El.one a u h
theorem jj3 (l : List α) (k : Nat) : (rows l).drop (k * El.sz α) = rows (l.drop k) := by
  induction l generalizing k with
  | nil => simp [zJ]
  | cons a l ih =>
    cases k with
    | zero => simp
    | succ k =>
      rw [Z0, List.drop_succ_cons, ← ih, List.drop_append, El.len, List.drop_eq_nil_of_le (by rw [El.len, Nat.succ_mul]; omega), List.nil_append]
      congr 1
      rw [Nat.succ_mul]
      omega
theorem rows_get' (l : List α) (i j : Nat) (hi : i < l.length) (hj : j < El.sz α) : (rows l)[i * El.sz α + j]? = (El.cells (l.getD i default))[j]? := by
  have h := congrArg (·[j]?) (jj3 l i); simp only [List.getElem?_drop] at h; rw [h, List.drop_eq_getElem_cons hi, Z0, List.getElem?_append_left (by rw [El.len]; exact hj)]
  simp [List.getD_eq_getElem?_getD, hi]
theorem rows_get {l : List α} {i j : Nat} {v : Value} (hi : i < l.length) (hv : (El.cells (l.getD i default))[j]? = some v) : (rows l)[i * El.sz α + j]? = some v := by
  have hj : j < El.sz α := by
    have := (List.getElem?_eq_some_iff.1 hv).1
    rwa [El.len] at this
  rw [rows_get' l i j hi hj, hv]
theorem c5 {l : List α} {i : Nat} {v : Value} (hi : i < l.length) (hv : (El.cells (l.getD i default))[0]? = some v) : (rows l)[i * El.sz α]? = some v := rows_get (j := 0) hi hv
theorem z6 {l : List α} {i : Nat} (hi : i < l.length) : ∀ j u, (El.cells (l.getD i default))[j]? = some u → (rows l)[i * El.sz α + j]? = some u := fun j u h => rows_get hi h
theorem rows_lt {l : List α} {i : Nat} (hi : i < l.length) (h0 : 0 < El.sz α) : i * El.sz α < (rows l).length := by
  rw [S1]; exact Nat.mul_lt_mul_of_pos_right hi h0
end
theorem nZ {c : Cx} {Q : Exit → Act → World → Prop} {fr : Fr} {hp : Hp} {L : List Fact} {ops : Array Oper} {rest : List Oper} {d : Tmp} {ty : TypeId} {pos : String} {af : Array Edge}
    {s t : TypeId} {x : Operand} {ks k k' : IntKind} {a : Int} (z : Int) (hd : Nat.blt d c.n = true) (hs : c.P.underlying s = some (.int ks)) (ht : c.P.underlying t = some (.int k')) (hx : ev fr x = some (.int k a)) (hz : k'.wrap a = z)
    (kk : HL c ops Q rest ((d, .int k' z) :: fr) hp L) : HL c ops Q (⟨some d, .convert s t x, ty, pos, af, none⟩ :: rest) fr hp L :=
  y3 _ rfl rfl hd (fun a' w ha _ => by
    simp only [execOp, ha.ev hx, Sem.run_bind, convert, run_underlying hs, run_underlying ht, Result.andThen_ok]; rw [← hz]
    cases ks <;> rfl) kk
theorem r_rem {c : Cx} {Q : Exit → Act → World → Prop} {fr : Fr} {hp : Hp} {L : List Fact} {ops : Array Oper} {rest : List Oper} {d : Tmp} {ty : TypeId} {pos : String} {af : Array Edge}
    {t yt : TypeId} {x y : Operand} {kd : IntKind} {a b : Int} (hd : Nat.blt d c.n = true) (hx : ev fr x = some (.int kd a)) (hy : ev fr y = some (.int kd b)) (hb : b ≠ 0)
    (kk : HL c ops Q rest ((d, .int kd (a.tmod b)) :: fr) hp L) : HL c ops Q (⟨some d, .binOp .rem t x y yt, ty, pos, af, none⟩ :: rest) fr hp L :=
  l1 _ hd hx hy (fun _ => rfl) (fun w => by
    have : (binOp .rem t (.int kd a) (.int kd b)) = Op.intDiv .rem kd a b := by cases kd <;> rfl
    rw [this]
    simp [Op.intDiv, hb]) kk
theorem wrapU (n : Int) : 0 ≤ IntKind.u64.wrap n ∧ IntKind.u64.wrap n < 18446744073709551616 := by
  simp only [IntKind.wrap, IntKind.bits, IntKind.signed]
  simp
  omega
theorem p8 {α : Type} [El α] {c : Cx} {Q : Exit → Act → World → Prop} {fr : Fr} {hp : Hp} {L : List Fact} {ops : Array Oper} {rest : List Oper} {d : Tmp} {ty : TypeId} {pos : String} {af : Array Edge}
    {t e : TypeId} {x i : Operand} {A : Option Addr} {n cp : Nat} {kd : IntKind} {z : Int} (l : List α) (j : Nat) (hd : Nat.blt d c.n = true) (ht : c.P.underlying t = some (.slice e)) (hz : Sz c.P e (El.sz α))
    (hx : ev fr x = some (.slice A n cp)) (hi : ev fr i = some (.int kd z)) (hjz : z = (j : Int)) (hr : Row A (rows l) ∈ L) (hn : n = l.length) (hj : j < l.length) (h0 : 0 < El.sz α)
    (k : HL c ops Q rest ((d, .pointer (some ((adr A).add (j * El.sz α)))) :: fr) hp L) : HL c ops Q (⟨some d, .indexAddr t x i, ty, pos, af, none⟩ :: rest) fr hp L :=
  dq7 j hd ht hz hx hi hjz (by omega) hr (rows_lt hj h0) k
def Rows2 {α : Type} [El α] (A : Option Addr) (ps : List (Sl α)) : Fact where
  P w := (Row A (rows ps)).P w ∧ ∀ p ∈ ps, (Row p.a (rows p.l)).P w
  fp k := (Row A (rows ps)).fp k ∨ ∃ p ∈ ps, (Row p.a (rows p.l)).fp k
  st w w' h hP := ⟨(Row A (rows ps)).st w w' (fun k hk => h k (.inl hk)) hP.1, fun p hp => (Row p.a (rows p.l)).st w w' (fun k hk => h k (.inr ⟨p, hp, hk⟩)) (hP.2 p hp)⟩
  lt w hP k hk := by
    rcases hk with hk | ⟨p, hp, hk⟩
    · exact (Row A (rows ps)).lt w hP.1 k hk
    exact (Row p.a (rows p.l)).lt w (hP.2 p hp) k hk
section
variable {c : Cx} {Q : Exit → Act → World → Prop} {fr : Fr} {hp : Hp} {L : List Fact} {ops : Array Oper} {rest : List Oper}
variable {d : Tmp} {ty : TypeId} {pos : String} {af : Array Edge}
theorem p_t {x y z : Operand} {v : Value} {b : Bool} (hd : Nat.blt d c.n = true) (hx : ev fr x = some (.bool b)) (hb : b = true) (hy : ev fr y = some v) (k : HL c ops Q rest ((d, v) :: fr) hp L) : HL c ops Q (⟨some d, .pick x y z, ty, pos, af, none⟩ :: rest) fr hp L := by
  subst hb; exact kz6 hd hx hy k
theorem p_f {x y z : Operand} {v : Value} {b : Bool} (hd : Nat.blt d c.n = true) (hx : ev fr x = some (.bool b)) (hb : b = false) (hz : ev fr z = some v) (k : HL c ops Q rest ((d, v) :: fr) hp L) : HL c ops Q (⟨some d, .pick x y z, ty, pos, af, none⟩ :: rest) fr hp L := by
  subst hb; exact kz7 hd hx hz k
theorem c_t {x : Operand} {b : Bool} {thn els : Code} (hx : ev fr x = some (.bool b)) (hb : b = true) (ht : HC c thn Q fr hp L) : HC c (.cond x thn els) Q fr hp L := by subst hb; exact jx5 hx ht
theorem c_f {x : Operand} {b : Bool} {thn els : Code} (hx : ev fr x = some (.bool b)) (hb : b = false) (hf : HC c els Q fr hp L) : HC c (.cond x thn els) Q fr hp L := by subst hb; exact jx6 hx hf
theorem bt1 {b : Bool} (h : (b == true) = true) : b = true := by cases b <;> simp_all
theorem bt2 {b : Bool} (h : (b == false) = false) : b = true := by cases b <;> simp_all
theorem bf1 {b : Bool} (h : (b == false) = true) : b = false := by cases b <;> simp_all
theorem bf2 {b : Bool} (h : (b == true) = false) : b = false := by cases b <;> simp_all
theorem gy {b : Bool} (h : (b == true) = false) : (b == false) = true := by cases b <;> simp_all
theorem Y5 {o : Oper} {j : Nat} {want : Bool} {t : Tmp} {v : Value} (ho : o.dst = some d) (hg : o.guard = some (j, want)) (hd : Nat.blt d c.n = true) (hj : (ops[j]?).bind (·.dst) = some t) (hv : lk fr t = some v) (hu : v = undef)
    (k : HL c ops Q rest ((d, undef) :: fr) hp L) : HL c ops Q (o :: rest) fr hp L := by
  subst hu; intro a w ha hw; refine cz4 ?_ ?_
  · rw [Region.wanted, hg]
    show (yielded ops a.tmps j == some want) = false; have h1 := ha.at_ t _ hv
    have : yielded ops a.tmps j = none := by
      unfold yielded; rw [hj]; simp only [Option.bind_some]
      cases h2 : a.tmps[t]? with
      | none => rfl
      | some u => simp [Array.getD_eq_getD_getElem?, h2, undef] at h1; rw [h1]
    rw [this]; rfl
  rw [ho]; exact k _ _ (ha.put (by simpa using hd) _) hw
theorem q6 {dst : Option Tmp} {op : Op} {j : Nat} {want b : Bool} {t : Tmp} (hj : (ops[j]?).bind (·.dst) = some t) (hv : lk fr t = some (.bool b))
    (hy : (b == want) = true → HL c ops Q (⟨dst, op, ty, pos, af, some (j, want)⟩ :: rest) fr hp L) (hn : (b == want) = false → HL c ops Q (⟨dst, op, ty, pos, af, some (j, want)⟩ :: rest) fr hp L) :
    HL c ops Q (⟨dst, op, ty, pos, af, some (j, want)⟩ :: rest) fr hp L := by
  cases hb : (b == want)
  · exact hn hb
  exact hy hb
theorem jO {O0 : Hp} {K : Env → Prop} {r : List Oper} {E : Env} {want b : Bool} {t : Tmp} (hv : lkE E t = some (.ex (.bool b))) (hy : (b == want) = true → HB c ops fr O0 hp L K r E) (hn : (b == want) = false → HB c ops fr O0 hp L K r E) : HB c ops fr O0 hp L K r E := by
  cases hb : (b == want)
  · exact hn hb
  exact hy hb
theorem j9 {x : Operand} {p : Prop} [Decidable p] {thn els : Code} (hx : ev fr x = some (.bool (decide p))) (ht : p → HC c thn Q fr hp L) (hf : ¬ p → HC c els Q fr hp L) : HC c (.cond x thn els) Q fr hp L :=
  d6 hx (fun h => ht (of_decide_eq_true h)) (fun h => hf (of_decide_eq_false h))
end
theorem m0 {α : Type u} {a  : α} {l : List α} : a ∈ a :: l := .head _
theorem m1 {α : Type u} {a x0 : α} {l : List α} : a ∈ x0 :: a :: l := .tail _ (.head _)
theorem m2 {α : Type u} {a x0 x1 : α} {l : List α} : a ∈ x0 :: x1 :: a :: l := .tail _ (.tail _ (.head _))
theorem perm3 {α : Type} (a b c : α) (l : List α) : (a :: b :: c :: l).Perm (c :: a :: b :: l) := by
  have h1 : (a :: b :: c :: l).Perm (a :: c :: b :: l) := (List.Perm.swap c b l).cons a; exact h1.trans (.swap c a _)
theorem perm2 {α : Type} (a b : α) (l : List α) : (a :: b :: l).Perm (b :: a :: l) := .swap b a l
theorem perm4 {α : Type} (a b c d : α) (l : List α) : (a :: b :: c :: d :: l).Perm (d :: a :: b :: c :: l) := ((perm3 b c d l).cons a).trans (.swap d a _)
end Go.W
end
namespace Go.W
theorem vP {l l' : Hp} (h : List.Perm l l' := by first | exact .refl _ | exact perm2 _ _ _ | exact perm3 _ _ _ _ | exact perm4 _ _ _ _ _) : List.Perm l l' := h
theorem bt_x {b : Bool} (h : b = true := by first | rfl | assumption | exact bt1 (by assumption) | exact bt2 (by assumption)) : b = true := h
theorem bf_x {b : Bool} (h : b = false := by first | rfl | assumption | exact bf1 (by assumption) | exact bf2 (by assumption)) : b = false := h
theorem ret_u {k : Con Unit} {c : Cx} {fr : Fr} {hp : Hp} {L : List Fact} {fn : Func} {w0 : World} {t : Tmp} (hres : fn.results = #[.tmp t] := by exact rfl) (hv : lk fr t = some (k.val ()) := by exact rfl) (hb : c.b = k.entry w0 := by exact rfl) (hi : k.inv () := by exact trivial) (hh : (k.hpO ()).Sublist hp := by exact nK) (hL : LSub L (k.LO ()) := by exact trivial) (hD : c.D = [] := by exact rfl) : HQ c (bodyPost c.P fn (k.post w0)) .ret fr hp L := ret1 () hres hv hb hi hh hL hD
end Go.W
section
namespace Go.W
open Go Go.RowKit
section
variable {c : Cx} {Q : Exit → Act → World → Prop} {fr : Fr} {hp : Hp} {L : List Fact} {ops : Array Oper} {rest : List Oper}
variable {d : Tmp} {ty : TypeId} {pos : String} {af : Array Edge}
theorem J5 {t e : TypeId} {x : Operand} {g : Nat} {cs : Array Value} {fz : Nat × Nat} {n : Nat} (hd : Nat.blt d c.n = true) (ht' : IsR c.P t) (hz' : Sz c.P t n) (hx : ev fr x = some (.pointer (i7 g))) (h : (g, Obj.cells cs e fz) ∈ hp) (hn : cs.size = n)
    (k : HL c ops Q rest ((d, .agg cs) :: fr) hp L) : HL c ops Q (⟨some d, .load t x, ty, pos, af, none⟩ :: rest) fr hp L :=
  y9 (cs := cs.toList) hd ht' hz' hx (by simpa using hn) (wW h (fun i u hu => by simpa using hu)) k
end
end Go.W
end
section
namespace Go.W
open Go Go.RowKit
abbrev Ment (κ : Type) := κ × Value × Nat
def entOf {κ : Type} (enc : κ → Value) (p : Ment κ) : MapEntry := ⟨enc p.1, p.2.1, p.2.2⟩
def mapO {κ : Type} (enc : κ → Value) (l : List (Ment κ)) (clk : Nat) : Obj := .map (l.map (entOf enc)).toArray clk
def findM {κ : Type} [DecidableEq κ] (k : κ) : List (Ment κ) → Nat → Option (Nat × Value)
  | [], _ => none
  | p :: l, i => if p.1 = k then some (i, p.2.1) else findM k l (i + 1)
def getM {κ : Type} [DecidableEq κ] (l : List (Ment κ)) (k : κ) : Option Value := (findM k l 0).map (·.2)
def putM {κ : Type} [DecidableEq κ] (l : List (Ment κ)) (k : κ) (v : Value) (clk : Nat) : List (Ment κ) :=
  match findM k l 0 with
  | some (i, _) => l.modify i fun p => (k, v, p.2.2)
  | none => l ++ [(k, v, clk)]
def clkM {κ : Type} [DecidableEq κ] (l : List (Ment κ)) (k : κ) (clk : Nat) : Nat := if (findM k l 0).isSome then clk else clk + 1
structure KeyC (P : Program) (kt : TypeId) {κ : Type} [DecidableEq κ] (enc : κ → Value) : Prop where
  chk : ∀ b k w, (Instr.checkKey b 10000 kt (enc k)).run P w = .ok () w
  find : ∀ k l w, (Instr.findKey kt (enc k) (l.map (entOf enc))).run P w = .ok (findM k l 0) w
  stays : ∀ k w, (Instr.keyThatStays (enc k) (enc k)).run P w = .ok (enc k) w
theorem xG (k : Int) : ∀ (l : List (Ment Int)) (i : Nat), Instr.findNow (.int .i64) (int k) (l.map (entOf int)) i = some (findM k l i)
  | [], i => rfl
  | p :: l, i => by
    rw [List.map_cons, Instr.findNow]; simp only [Instr.sameNow, entOf, findM]
    by_cases h : p.1 = k
    · simp [h]
    have h' : ¬ k = p.1 := fun e => h e.symm; simp only [if_true, h, if_false, beq_eq_false_iff_ne.2 h']; exact xG k l (i + 1)
theorem xF (k : Str) : ∀ (l : List (Ment Str)) (i : Nat), Instr.findNow .string (str k) (l.map (entOf str)) i = some (findM k l i)
  | [], i => rfl
  | p :: l, i => by
    rw [List.map_cons, Instr.findNow]; simp only [str, Instr.sameNow, entOf, findM]
    have hb : ((ByteArray.mk k.toArray) == ByteArray.mk p.1.toArray) = decide (p.1 = k) := by
      rw [Bool.eq_iff_iff, MapKept.bytes_beq, decide_eq_true_iff]
      constructor
      · intro e
        injection e with e
        have := congrArg Array.toList e
        simpa using this.symm
      intro e; rw [e]
    rw [hb]
    by_cases h : p.1 = k
    · simp [h]
    simp only [h, decide_false, if_false]; exact xF k l (i + 1)
theorem KeyC.int {P : Program} {kt : TypeId} (h : P.underlying kt = some (.int .i64)) : KeyC P kt W.int where
  chk b k w := MapKept.run_checkKey h (by simp [MapKept.IsKey]) b 9999
  find k l w := MapKept.run_findKey h (xG k l 0)
  stays k w := MapKept.run_keyThatStays (d := .int .i64) (by simp [MapKept.IsKey])
theorem KeyC.str {P : Program} {kt : TypeId} (h : P.underlying kt = some .string) : KeyC P kt W.str where
  chk b k w := MapKept.run_checkKey h (by simp [MapKept.IsKey, W.str]) b 9999
  find k l w := MapKept.run_findKey h (xF k l 0)
  stays k w := MapKept.run_keyThatStays (d := .string) (by simp [MapKept.IsKey, W.str])
def pair (p : Int × Int) : Value := .agg #[W.int p.1, W.int p.2]
theorem jI {P : Program} {e : TypeId} (he : P.underlying e = some (.int .i64)) (cs : Array Value) (i : Nat) (v : Value) (hv : cs[i]? = some v) (w : World) : (part e cs i).run P w = .ok v w := by
  have hagg : (isAgg e).run P w = .ok false w := by
    unfold isAgg; rw [Sem.run_bind, run_underlying he w]
    rfl
  simp [part, Sem.run_bind, hagg, hv]
theorem hx9 {P : Program} {e : TypeId} (he : P.underlying e = some (.int .i64)) (d : Nat) (a b : Int) (w : World) : (Op.equalIn (d + 1) e (W.int a) (W.int b)).run P w = .ok (a == b) w := by
  simp [Op.equalIn, run_underlying he]
theorem eq_pair {P : Program} {kt e : TypeId} (h : P.underlying kt = some (.array 2 e)) (he : P.underlying e = some (.int .i64)) (hz : Sz P e 1) (p q : Int × Int) (w : World) : (Op.equal kt (pair p) (pair q)).run P w = .ok (decide (p = q)) w := by
  have hs := kY hz w
  have key : ∀ d, (Op.equalIn (d + 2) kt (pair p) (pair q)).run P w = .ok (decide (p = q)) w := by
    intro d; obtain ⟨a, b⟩ := p; obtain ⟨a', b'⟩ := q; have p0 := jI he #[W.int a, W.int b] 0 (W.int a) rfl w; have p1 := jI he #[W.int a, W.int b] 1 (W.int b) rfl w; have q0 := jI he #[W.int a', W.int b'] 0 (W.int a') rfl w; have q1 := jI he #[W.int a', W.int b'] 1 (W.int b') rfl w; unfold Op.equalIn; simp only [Sem.run_bind, run_underlying h, pair, hs, Result.andThen_ok, Std.Legacy.Range.forIn_eq_forIn_range', Std.Legacy.Range.size, Nat.sub_zero, Nat.reduceAdd, Nat.reduceSub, Nat.reduceDiv, List.range', List.forIn_cons, List.forIn_nil, Nat.zero_mul, Nat.mul_one, Nat.zero_add, p0, p1, q0, q1, hx9 he d]
    by_cases h1 : a = a'
    · subst h1
      by_cases h2 : b = b'
      · subst h2; simp [p1, hx9 he d]
      simp [h2, p1, q1, hx9 he d]
    simp [h1]
  exact key 9998
theorem aj8 {P : Program} {kt e : TypeId} (h : P.underlying kt = some (.array 2 e)) (he : P.underlying e = some (.int .i64)) (hz : Sz P e 1) (k : Int × Int) (w : World) : ∀ (l : List (Ment (Int × Int))) (i : Nat), (Instr.findAsking kt (pair k) (l.map (entOf pair)) i).run P w = .ok (findM k l i) w
  | [], i => rfl
  | p :: l, i => by
    rw [List.map_cons, Instr.findAsking]; simp only [Sem.run_bind, entOf, eq_pair h he hz, Result.andThen_ok, findM]
    by_cases hk : p.1 = k
    · simp [hk]
    have h' : ¬ k = p.1 := fun e => hk e.symm; simp only [hk, h', decide_false, Bool.false_eq_true, if_false]; exact aj8 h he hz k w l (i + 1)
theorem KeyC.pair {P : Program} {kt e : TypeId} (h : P.underlying kt = some (.array 2 e)) (he : P.underlying e = some (.int .i64)) (hz : Sz P e 1) : KeyC P kt W.pair where
  chk b k w := by
    have hs := kY hz w; have p0 := jI he #[W.int k.1, W.int k.2] 0 (W.int k.1) rfl w; have p1 := jI he #[W.int k.1, W.int k.2] 1 (W.int k.2) rfl w; have c : ∀ (n : Int), (Instr.checkKey b 9999 e (W.int n)).run P w = .ok () w := fun n => MapKept.run_checkKey he (by simp [MapKept.IsKey]) b 9998; unfold Instr.checkKey
    simp [run_underlying h, W.pair, hs, Std.Legacy.Range.forIn_eq_forIn_range', List.range', p0, p1, c]
  find k l w := by
    unfold Instr.findKey; simp only [Sem.run_bind, run_underlying h, Result.andThen_ok]
    have : Instr.findNow (.array 2 e) (W.pair k) (l.map (entOf W.pair)) 0 = none ∨ (l = [] ∧ Instr.findNow (.array 2 e) (W.pair k) (l.map (entOf W.pair)) 0 = some none) := by
      cases l with
      | nil => exact .inr ⟨rfl, rfl⟩
      | cons p l => exact .inl rfl
    rcases this with h1 | ⟨rfl, h1⟩
    · rw [h1]
      exact aj8 h he hz k w l 0
    rw [h1]; rfl
  stays k w := by
    obtain ⟨a, b⟩ := k
    have : Instr.sameBits 10000 (W.pair (a, b)) (W.pair (a, b)) = true := by
      simp [Instr.sameBits, W.pair]
    unfold Instr.keyThatStays; rw [if_pos this]
    rfl
/-! ### Cuts aS9 facts; perms -/
theorem C6 {α : Type} {l l' : List α} (h : ∀ p : α → Bool, l.countP p = l'.countP p) : l.Perm l' := by
  classical
  refine List.perm_iff_count.2 fun a => ?_
  simpa [List.count] using h (· == a)
section
variable {c : Cx} {Q : Exit → Act → World → Prop} {fr : Fr} {hp : Hp} {L : List Fact} {ops : Array Oper} {rest : List Oper}
theorem jN {e : TypeId} {sz n cap : Nat} {A : Option Addr} {xs : List Value} {og : Hp} {x : Exit} (hG : Grow e sz A n cap xs og) (k : HQ c Q x fr [] (Row A xs :: L)) : HQ c Q x fr og L := fun a w ha hw => k a w ha (sX hG (by simpa using hw))
end
/-! ### The rules -/
def MapAt (b : Bx) (hp : Hp) (L : List Fact) (g : Nat) (o : Obj) : Prop := ∀ w, WI b w hp L → w.heap[g]? = some o
section
variable {κ : Type} [DecidableEq κ] {enc : κ → Value} {kt e : TypeId}
variable {c : Cx} {Q : Exit → Act → World → Prop} {fr : Fr} {hp : Hp} {L : List Fact} {ops : Array Oper} {rest : List Oper}
variable {d : Tmp} {ty : TypeId} {pos : String} {af : Array Edge}
theorem sO {k : κ} : ∀ (l : List (Ment κ)) (i : Nat), findM k l (i + 1) = (findM k l i).map fun p => (p.1 + 1, p.2)
  | [], i => rfl
  | p :: l, i => by
    simp only [findM]
    split
    · rfl
    exact sO l (i + 1)
theorem jz1 (p : Ment κ) (l : List (Ment κ)) (k : κ) : getM (p :: l) k = if p.1 = k then some p.2.1 else getM l k := by
  unfold getM; simp only [findM]
  split
  · rfl
  rw [sO]; cases findM k l 0 <;> rfl
end
end Go.W
end
section
namespace Go.W
open Go Go.RowKit
section
variable {c : Cx} {fr : Fr} {hp : Hp} {L : List Fact}
theorem ij7 {β : Type} {k : Con β} {fn : Func} {w0 : World} (x : β) {t : Tmp} {ty e : TypeId} {g n : Nat} {cs : Array Value} {fz : Nat × Nat} (hres : fn.results = #[.cell t ty]) (hv : lk fr t = some (.pointer (i7 g))) (ht : IsR c.P ty) (hz : Sz c.P ty n) (hn : cs.size = n)
    (hm : (g, Obj.cells cs e fz) ∈ hp) (hk : k.val x = .agg cs) (hb : c.b = k.entry w0) (hi : k.inv x) (h2 : (k.hpO x).Sublist hp) (h3 : LSub L (k.LO x)) (hD : c.D = [] := by rfl) : HQ c (bodyPost c.P fn (k.post w0)) .ret fr hp L :=
  tJ x (fun a w ha hw => by
    obtain ⟨dd, ht, hr⟩ := ht; have h1 := hw.own _ hm; simp only at h1
    have hl : (loadVar ty ⟨g, 0, none⟩).run c.P w = .ok (.agg cs) w := by
      have hagg : (isAgg ty).run c.P w = .ok true w := by
        unfold isAgg; rw [Sem.run_bind, run_underlying ht w]
        cases dd <;> simp_all [TypeDesc.isRow]
      have hc := run_loadCells_list (P := c.P) w ⟨g, 0, none⟩ cs.toList (fun j u hu => by rw [sR, Nat.zero_add]; simp at hu; simp [World.cell?, h1, hu]); have hs := kY hz w; simp only [loadVar, Sem.run_bind, hagg, Result.andThen_ok, if_true, hs, ← hn]; have e : cs.size = cs.toList.length := by simp
      rw [e, hc]
      simp
    have hv' := ha.at_ _ _ hv; rw [hk]; unfold results; rw [hres]; have hv2 : a.tmps[t]?.getD undef = .pointer (i7 g) := by simpa using hv'
    simp [hv2, asAddr, hl]) hb hi h2 h3 hD
end
section
variable {c : Cx} {Q : Exit → Act → World → Prop} {fr : Fr} {hp : Hp} {L : List Fact} {ops : Array Oper} {rest : List Oper}
variable {d : Tmp} {ty : TypeId} {pos : String} {af : Array Edge}
theorem w7 {t e : TypeId} {x : Operand} {g : Nat} {cs : Array Value} {fz : Nat × Nat} {n : Nat} (hd : Nat.blt d c.n = true) (ht' : IsR c.P t) (hz' : Sz c.P t n) (hx : ev fr x = some (.pointer (i7 g))) (h : Blk g (Obj.cells cs e fz) ∈ L) (hn : cs.size = n)
    (k : HL c ops Q rest ((d, .agg cs) :: fr) hp L) : HL c ops Q (⟨some d, .load t x, ty, pos, af, none⟩ :: rest) fr hp L :=
  y9 (cs := cs.toList) hd ht' hz' hx (by simpa using hn) (kN h (fun i u hu => by simpa using hu)) k
end
section
variable {κ : Type} [DecidableEq κ] {enc : κ → Value} {kt e : TypeId}
variable {c : Cx} {Q : Exit → Act → World → Prop} {fr : Fr} {hp : Hp} {L : List Fact} {ops : Array Oper} {rest : List Oper}
variable {d : Tmp} {ty : TypeId} {pos : String} {af : Array Edge}
end
theorem bz3 {α : Type} {l' : List α} : ∀ {l : List α}, (∀ p : α → Bool, l'.countP p ≤ l.countP p) → ∃ r, l.Perm (l' ++ r) := by
  classical
  induction l' with
  | nil => intro l _; exact ⟨l, .refl _⟩
  | cons a t ih =>
    intro l h; have h1 := h (fun x => decide (x = a)); rw [List.countP_cons_of_pos (by simp)] at h1
    have ha : a ∈ l := by
      have : 0 < l.countP (fun x => decide (x = a)) := by omega
      obtain ⟨x, hx, e⟩ := List.countP_pos_iff.1 this
      simp at e
      exact e ▸ hx
    have hp := List.perm_cons_erase ha
    obtain ⟨r, hr⟩ := ih (l := l.erase a) (fun p => by
      have h2 := h p; have h3 := hp.countP_eq p; rw [List.countP_cons] at h2 h3
      omega)
    exact ⟨r, hp.trans (hr.cons a)⟩
theorem WI.count {b : Bx} {w : World} {hp hp' : Hp} {L L' : List Fact} (h : WI b w hp L) (hc : ∀ p : Nat × Obj → Bool, hp'.countP p ≤ hp.countP p) (h2 : ∀ F ∈ L', F ∈ L) : WI b w hp' L' := by
  obtain ⟨r, hr⟩ := bz3 hc; exact (h.perm hr).weak (List.sublist_append_left _ _) h2
section
variable {c : Cx} {Q : Exit → Act → World → Prop} {fr : Fr} {hp : Hp} {L : List Fact} {ops : Array Oper} {rest : List Oper}
theorem lz5 {x : Code} (hp' : Hp) (h : ∀ p : Nat × Obj → Bool, hp'.countP p ≤ hp.countP p) (k : HC c x Q fr hp' L) : HC c x Q fr hp L := fun a w ha hw => k a w ha (hw.count h fun _ h => h)
end
section
variable {c : Cx} {Q : Exit → Act → World → Prop} {fr : Fr} {hp : Hp} {L : List Fact} {ops : Array Oper} {rest : List Oper}
theorem vF {b : Bx} {w : World} {g : Nat} {o : Obj} (h : WI b w ((g, o) :: hp) L) : WI b w hp (Blk g o :: L) := h.letgo (h.own (g, o) (by simp)) (fun k hk => hk)
theorem v7 {g : Nat} {o : Obj} {x : Code} (k : HC c x Q fr hp (Blk g o :: L)) : HC c x Q fr ((g, o) :: hp) L := fun a w ha hw => k a w ha (vF hw)
theorem bj8 {g : Nat} {o : Obj} (k : HL c ops Q rest fr hp (Blk g o :: L)) : HL c ops Q rest fr ((g, o) :: hp) L := fun a w ha hw => k a w ha (vF hw)
end
def Facts (Fs : List Fact) : Fact where
  P w := ∀ F ∈ Fs, F.P w
  fp k := ∃ F ∈ Fs, F.fp k
  st w w' h hP F hF := F.st w w' (fun k hk => h k ⟨F, hF, hk⟩) (hP F hF)
  lt w hP k hk := by obtain ⟨F, hF, hk⟩ := hk; exact F.lt w (hP F hF) k hk
section
variable {c : Cx} {Q : Exit → Act → World → Prop} {fr : Fr} {hp : Hp} {L : List Fact} {ops : Array Oper} {rest : List Oper}
theorem wi_pick {b : Bx} {w : World} {Fs : List Fact} {F : Fact} (h : Facts Fs ∈ L) (hF : F ∈ Fs) (hw : WI b w hp L) : WI b w hp (F :: L) := bU hw (hw.fs _ h F hF) (fun k hk => ⟨_, h, F, hF, hk⟩)
theorem ix1 {Fs : List Fact} {F : Fact} (h : Facts Fs ∈ L) (hF : F ∈ Fs) (k : HL c ops Q rest fr hp (F :: L)) : HL c ops Q rest fr hp L := fun a w ha hw => k a w ha (wi_pick h hF hw)
theorem yV {b : Bx} {w : World} {Fs : List Fact} (h : ∀ F ∈ Fs, F ∈ L ∨ ∃ Gs, Facts Gs ∈ L ∧ F ∈ Gs) (hw : WI b w hp L) : WI b w hp (Facts Fs :: L) :=
  bU hw (fun F hF => by
    rcases h F hF with h1 | ⟨Gs, h1, h2⟩
    · exact hw.fs _ h1
    · exact hw.fs _ h1 F h2) (fun k hk => by
    obtain ⟨F, hF, hk⟩ := hk
    rcases h F hF with h1 | ⟨Gs, h1, h2⟩
    · exact ⟨F, h1, hk⟩
    exact ⟨_, h1, F, h2, hk⟩)
theorem dz2 {Fs : List Fact} (h : ∀ F ∈ Fs, F ∈ L ∨ ∃ Gs, Facts Gs ∈ L ∧ F ∈ Gs) (k : HL c ops Q rest fr hp (Facts Fs :: L)) : HL c ops Q rest fr hp L := fun a w ha hw => k a w ha (yV h hw)
theorem dz3 {Fs : List Fact} {x : Code} (h : ∀ F ∈ Fs, F ∈ L ∨ ∃ Gs, Facts Gs ∈ L ∧ F ∈ Gs) (k : HC c x Q fr hp (Facts Fs :: L)) : HC c x Q fr hp L := fun a w ha hw => k a w ha (yV h hw)
theorem dz1 {Fs : List Fact} {x : Exit} (h : ∀ F ∈ Fs, F ∈ L ∨ ∃ Gs, Facts Gs ∈ L ∧ F ∈ Gs) (k : HQ c Q x fr hp (Facts Fs :: L)) : HQ c Q x fr hp L := fun a w ha hw => k a w ha (yV h hw)
end
section
variable {c : Cx} {Q : Exit → Act → World → Prop} {fr : Fr} {hp : Hp} {L : List Fact} {ops : Array Oper} {rest : List Oper}
theorem D4 {e : Exit} {α : Type} [El α] (k : HQ c Q e fr hp (Row none (rows ([] : List α)) :: L)) : HQ c Q e fr hp L := hq_more (F := Row none (rows ([] : List α))) (fun w _ => Row.nil _ w) (fun k hk => by obtain ⟨_, e, _⟩ := hk; cases e) k
theorem bj7 {α : Type} [El α] (k : HL c ops Q rest fr hp (Row none (rows ([] : List α)) :: L)) : HL c ops Q rest fr hp L := hl_more (F := Row none (rows ([] : List α))) (fun w _ => Row.nil _ w) (fun k hk => by obtain ⟨_, e, _⟩ := hk; cases e) k
end
end Go.W
end
section
namespace Go.Proofs.YtpihanmcnmlodaaGreatDoor
open Go Go.W Tryz T F
set_option maxRecDepth 20000
attribute [local irreducible] HL HC HQ HB Row Rows2 Blk Facts
theorem A6 {α : Type} [Inhabited α] (l : List α) (k : Nat) (h : k < l.length) : l.take (k + 1) = l.take k ++ [l.getD k default] := by
  rw [List.take_succ_eq_append_getElem h]
  simp [List.getD_eq_getElem?_getD, h]
theorem gj7 {α : Type} {a b : List α} {k : Nat} (h : a.take k = b.take k) (ha : a.length ≤ k) (hb : b.length ≤ k) : a = b := by
  rwa [List.take_of_length_le ha, List.take_of_length_le hb] at h
theorem ne_at {α : Type} [Inhabited α] {a b : List α} {k : Nat} (h : ¬ a.getD k default = b.getD k default) : ¬ a = b := fun e => h (by rw [e])
theorem jM {A B : Option Addr} {ca cb : Nat} (a b : List Int) (ha : a.length ≤ 9223372036854775806) :
    Meets prog iS [.slice A a.length ca, .slice B b.length cb] { LI := [Row A (rows a), Row B (rows b)], val := fun _ : Unit => .bool (decide (a = b)) } := by
 refine d3 yE rfl n2 fun w0 => ?_; refine d4 (b6 rfl (c3 (d1 (d4 (b4 rfl ?_))))); refine k5 rfl j2 rfl (b4 rfl (k5 rfl j2 rfl ?_)); refine B9 rfl rfl rfl (c3 ?_)
 first | refine j9 rfl (fun hb1 => ?_) (fun hb1 => ?_) | refine d6 rfl (fun hb1 => ?_) (fun hb1 => ?_)
 ·have hb1' := hb1; try simp at hb1'
  have hb1 : ¬ a = b := fun e => by subst e; exact hb1 rfl
  refine d4 (b6 rfl (c3 (M2 ?_))); exact ret1 () rfl (by rw [decide_eq_false hb1]; rfl) rfl tK (.refl _) tK
 have hb1' := hb1; try simp at hb1'
 have hb1 : a.length = b.length := by omega
 refine i4 (c7 (d1 (d4 (b6 rfl (c3 (i8 ?_)))))); refine p6 (β := Nat) ⟨fun k => k ≤ a.length ∧ a.take k = b.take k, fun k => [(0, .slice A a.length ca), (1, .slice B b.length cb), (5, int k)], fun _ => [], fun _ => [Row A (rows a), Row B (rows b)]⟩ (fun k => a.length - k) 0 ⟨Nat.zero_le _, rfl⟩ mC (.refl _) ⟨m0, m1, tK⟩ fun k hk => ?_; obtain ⟨hk, ht⟩ := hk; refine d1 (d4 (b4 rfl (b4 rfl ?_))); refine k5 rfl j2 rfl ?_; refine u7 rfl rfl rfl (c3 ?_)
 first | refine j9 rfl (fun hb2 => ?_) (fun hb2 => ?_) | refine d6 rfl (fun hb2 => ?_) (fun hb2 => ?_)
 ·have hb2' := hb2; try simp at hb2'
  have hb2 : k < a.length := by omega
  refine i4 (c7 (d1 (i8 (d1 ?_)))); refine G9 8 mixed (by decide) (by decide) rfl rfl (p9 rfl (p9 rfl (m6 (fun w1 => p8 (α := Int) _ _ rfl j2 k6 rfl rfl rfl mB rfl (by omega) (by decide) (q_z rfl)) (m6 (fun w1 => b3 rfl b5 rfl (i1 mB (c5 (by omega) rfl)) (q_z rfl)) (p9 rfl (p9 rfl (m6 (fun w1 => p8 (α := Int) _ _ rfl j2 k6 rfl rfl rfl mB rfl (by omega) (by decide) (q_z rfl)) (m6 (fun w1 => b3 rfl b5 rfl (i1 mB (c5 (by omega) rfl)) (q_z rfl)) ?_)))))))); refine y8 ⟨rfl, ?_⟩; refine B9 rfl rfl rfl (c3 ?_)
  first | refine j9 rfl (fun hb3 => ?_) (fun hb3 => ?_) | refine d6 rfl (fun hb3 => ?_) (fun hb3 => ?_)
  ·have hb3' := hb3; try simp at hb3'
   have hb3 : ¬ a = b := ne_at (a := a) (b := b) (k := k) hb3; refine d4 (b6 rfl (c3 (j6 (A1 (u4 (A1 ?_)))))); exact ret1 () rfl (by rw [decide_eq_false hb3]; rfl) rfl tK (.refl _) tK
  have hb3' := hb3; try simp at hb3'
  have hb3 : a.getD k default = b.getD k default := Classical.not_not.1 hb3; refine i4 (q8 (c7 (c9 (b4 rfl ?_)))); refine r4 _ rfl rfl rfl rfl m7 ?_; refine b6 rfl (b7 ?_); exact again _ (k + 1) ⟨by omega, by rw [A6 a k hb2, A6 b k (by omega), ht, hb3]⟩ (by first | omega | (simp only; omega)) mC (.refl _) ⟨m0, m1, tK⟩
 have hb2' := hb2; try simp at hb2'
 have hb2 : k = a.length := by omega
 refine m4 (v6 (l9 (c7 (d4 (b6 rfl (c3 (j6 ?_))))))); exact ret1 () rfl (by rw [decide_eq_true (gj7 ht (by omega) (by omega))]; rfl) rfl tK (.refl _) tK
abbrev OutC := Option Addr × Nat
def outSl {α : Type} [El α] (l : List α) : Con OutC := { inv := fun x => l.length ≤ x.2, val := fun x => .slice x.1 l.length x.2, LO := fun x => [Row x.1 (rows l)] }
end Go.Proofs.YtpihanmcnmlodaaGreatDoor
end
