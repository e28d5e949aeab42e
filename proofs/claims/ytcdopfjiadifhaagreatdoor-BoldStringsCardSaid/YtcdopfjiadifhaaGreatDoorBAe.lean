/- Texts. -/
import Derived.Test.YtcdopfjiadifhaaGreatDoorProg
import Derived.KernelRfl
import Derived.Laws.StructEq
import Derived.Laws.IdiomStrings
import Derived.Test.YtcdopfjiadifhaaGreatDoorBAd
set_option linter.unusedVariables false
set_option linter.unusedSimpArgs false
section
namespace Go.Proofs.YtcdopfjiadifhaaGreatDoor
open Go Go.W Tryz
theorem mixed : prog.follows .mixedOrders = true := p9
namespace F
abbrev jV : Nat := 3
theorem uU : prog.funcs[jV]? = some f3 := func3
abbrev sz6 : Nat := 4
abbrev nN : Nat := 5
theorem hq9 : prog.funcs[nN]? = some f5 := func5
theorem dx4 : Callable prog nN := C0 func5
abbrev kN : Nat := 6
theorem dx3 : prog.funcs[kN]? = some f6 := func6
theorem dI : Callable prog kN := C0 func6
abbrev nQ : Nat := 7
theorem hx5 : prog.funcs[nQ]? = some f7 := func7
theorem dx7 : Callable prog nQ := C0 func7
abbrev nR : Nat := 8
theorem hx6 : prog.funcs[nR]? = some f8 := func8
theorem dx8 : Callable prog nR := C0 func8
abbrev rO : Nat := 9
theorem jx3 : prog.funcs[rO]? = some f9 := func9
theorem ij3 : Callable prog rO := C0 func9
abbrev nI : Nat := 10
theorem hj7 : prog.funcs[nI]? = some f10 := func10
theorem dx0 : Callable prog nI := C0 func10
abbrev nP : Nat := 11
theorem hx4 : prog.funcs[nP]? = some f11 := func11
theorem dx6 : Callable prog nP := C0 func11
abbrev bq0 : Nat := 12
theorem pj4 : prog.funcs[bq0]? = some f12 := func12
theorem rJ : Callable prog bq0 := C0 func12
abbrev uZ : Nat := 13
theorem lj6 : prog.funcs[uZ]? = some f13 := func13
theorem jx5 : Callable prog uZ := C0 func13
abbrev rH : Nat := 14
theorem jq3 : prog.funcs[rH]? = some f14 := func14
theorem hj8 : Callable prog rH := C0 func14
abbrev nS : Nat := 15
theorem hx9 : prog.funcs[nS]? = some f15 := func15
theorem dx9 : Callable prog nS := C0 func15
abbrev jO : Nat := 16
theorem jx9 : prog.funcs[jO]? = some f16 := func16
theorem ij8 : Callable prog jO := C0 func16
abbrev jB : Nat := 17
theorem bj9 : prog.funcs[jB]? = some f17 := func17
theorem lA : Callable prog jB := C0 func17
abbrev jM : Nat := 18
theorem jx4 : prog.funcs[jM]? = some f18 := func18
theorem ij4 : Callable prog jM := C0 func18
abbrev rI : Nat := 19
theorem jq6 : prog.funcs[rI]? = some f19 := func19
theorem hq6 : Callable prog rI := C0 func19
abbrev lQ : Nat := 20
theorem lj7 : prog.funcs[lQ]? = some f20 := func20
theorem jx7 : Callable prog lQ := C0 func20
abbrev nO : Nat := 21
theorem hx3 : prog.funcs[nO]? = some f21 := func21
theorem dx5 : Callable prog nO := C0 func21
abbrev jN : Nat := 22
theorem jx6 : prog.funcs[jN]? = some f22 := func22
theorem ij6 : Callable prog jN := C0 func22
abbrev nL : Nat := 23
theorem hq7 : prog.funcs[nL]? = some f23 := func23
theorem dx1 : Callable prog nL := C0 func23
abbrev nM : Nat := 24
theorem hq8 : prog.funcs[nM]? = some f24 := func24
theorem dx2 : Callable prog nM := C0 func24
abbrev hY : Nat := 25
theorem ij5 : prog.funcs[hY]? = some f25 := func25
theorem dz8 : Callable prog hY := C0 func25
abbrev cM : Nat := 26
theorem jq7 : prog.funcs[cM]? = some f26 := func26
theorem bR : Callable prog cM := C0 func26
abbrev kP : Nat := 27
theorem dz1 : prog.funcs[kP]? = some f27 := func27
theorem dJ : Callable prog kP := C0 func27
abbrev nT : Nat := 28
theorem hz3 : prog.funcs[nT]? = some f28 := func28
theorem G9 : Callable prog nT := C0 func28
abbrev jC : Nat := 29
theorem bq2 : prog.funcs[jC]? = some f29 := func29
theorem X7 : Callable prog jC := C0 func29
abbrev kQ : Nat := 30
theorem dz2 : prog.funcs[kQ]? = some f30 := func30
theorem bq3 : Callable prog kQ := C0 func30
abbrev rP : Nat := 31
theorem jx8 : prog.funcs[rP]? = some f31 := func31
theorem bS : Callable prog rP := C0 func31
abbrev kH : Nat := 32
theorem dq4 : prog.funcs[kH]? = some f32 := func32
theorem u6 : Callable prog kH := C0 func32
abbrev bq7 : Nat := 33
theorem pj5 : prog.funcs[bq7]? = some f33 := func33
theorem aj7 : Callable prog bq7 := C0 func33
abbrev aG : Nat := 34
theorem kS : prog.funcs[aG]? = some f34 := func34
theorem hz5 : Callable prog aG := C0 func34
abbrev aL : Nat := 35
theorem tJ : prog.funcs[aL]? = some f35 := func35
theorem cP : Callable prog aL := C0 func35
abbrev nJ : Nat := 36
theorem hj9 : prog.funcs[nJ]? = some f36 := func36
theorem qE : Callable prog nJ := C0 func36
abbrev rL : Nat := 37
theorem V2 : prog.funcs[rL]? = some f37 := func37
theorem ij0 : Callable prog rL := C0 func37
abbrev nH : Nat := 38
theorem hj6 : prog.funcs[nH]? = some f38 := func38
theorem qD : Callable prog nH := C0 func38
abbrev kK : Nat := 39
theorem dq7 : prog.funcs[kK]? = some f39 := func39
theorem bj5 : Callable prog kK := C0 func39
abbrev bQ : Nat := 40
theorem bj6 : prog.funcs[bQ]? = some f40 := func40
theorem kZ : Callable prog bQ := C0 func40
abbrev kM : Nat := 41
theorem dq9 : prog.funcs[kM]? = some f41 := func41
theorem bj7 : Callable prog kM := C0 func41
abbrev rN : Nat := 42
theorem jx2 : prog.funcs[rN]? = some f42 := func42
theorem jE : Callable prog rN := C0 func42
abbrev cF : Nat := 43
theorem wN : prog.funcs[cF]? = some f43 := func43
theorem hU : Callable prog cF := C0 func43
abbrev qF : Nat := 44
theorem mj0 : prog.funcs[qF]? = some f44 := func44
theorem yG : Callable prog qF := C0 func44
abbrev uV : Nat := 45
theorem lj3 : prog.funcs[uV]? = some f45 := func45
theorem jx0 : Callable prog uV := C0 func45
abbrev dN : Nat := 46
theorem yJ : prog.funcs[dN]? = some f46 := func46
theorem wK : Callable prog dN := C0 func46
abbrev Y8 : Nat := 47
theorem ij7 : prog.funcs[Y8]? = some f47 := func47
theorem gj1 : Callable prog Y8 := C0 func47
abbrev rK : Nat := 48
theorem jq9 : prog.funcs[rK]? = some f48 := func48
theorem tI : Callable prog rK := C0 func48
abbrev dL : Nat := 49
theorem yF : prog.funcs[dL]? = some f49 := func49
theorem O6 : Callable prog dL := C0 func49
abbrev Z5 : Nat := 50
theorem rF : prog.funcs[Z5]? = some f50 := func50
theorem bX : Callable prog Z5 := C0 func50
abbrev rM : Nat := 51
theorem jx1 : prog.funcs[rM]? = some f51 := func51
theorem ij2 : Callable prog rM := C0 func51
abbrev Q7 : Nat := 52
theorem jF : prog.funcs[Q7]? = some f52 := func52
theorem X4 : Callable prog Q7 := C0 func52
abbrev mY : Nat := 53
theorem hj5 : prog.funcs[mY]? = some f53 := func53
theorem dq2 : Callable prog mY := C0 func53
abbrev kU : Nat := 54
theorem dz7 : prog.funcs[kU]? = some f54 := func54
theorem A5 : Callable prog kU := C0 func54
abbrev N9 : Nat := 55
theorem gj0 : prog.funcs[N9]? = some f55 := func55
theorem bx0 : Callable prog N9 := C0 func55
abbrev kT : Nat := 56
theorem dz6 : prog.funcs[kT]? = some f56 := func56
theorem bq6 : Callable prog kT := C0 func56
abbrev dM : Nat := 57
theorem yI : prog.funcs[dM]? = some f57 := func57
theorem iF : Callable prog dM := C0 func57
abbrev S2 : Nat := 58
theorem jT : prog.funcs[S2]? = some f58 := func58
theorem iZ : Callable prog S2 := C0 func58
abbrev kV : Nat := 59
theorem dz9 : prog.funcs[kV]? = some f59 := func59
theorem bq9 : Callable prog kV := C0 func59
abbrev kO : Nat := 60
theorem dz0 : prog.funcs[kO]? = some f60 := func60
theorem bq1 : Callable prog kO := C0 func60
abbrev W5 : Nat := 61
theorem nU : prog.funcs[W5]? = some f61 := func61
theorem lO : Callable prog W5 := C0 func61
abbrev aK : Nat := 62
theorem tG : prog.funcs[aK]? = some f62 := func62
theorem rG : Callable prog aK := C0 func62
abbrev kJ : Nat := 63
theorem dq6 : prog.funcs[kJ]? = some f63 := func63
theorem H1 : Callable prog kJ := C0 func63
abbrev bF : Nat := 64
theorem uT : prog.funcs[bF]? = some f64 := func64
theorem tH : Callable prog bF := C0 func64
abbrev cV : Nat := 65
theorem qG : prog.funcs[cV]? = some f65 := func65
theorem U0 : Callable prog cV := C0 func65
abbrev bC : Nat := 66
theorem uP : prog.funcs[bC]? = some f66 := func66
theorem tC : Callable prog bC := C0 func66
abbrev uW : Nat := 67
theorem lj4 : prog.funcs[uW]? = some f67 := func67
theorem vO : Callable prog uW := C0 func67
abbrev kL : Nat := 68
theorem dq8 : prog.funcs[kL]? = some f68 := func68
theorem K4 : Callable prog kL := C0 func68
abbrev nY : Nat := 69
theorem hz6 : prog.funcs[nY]? = some f69 := func69
theorem dz5 : Callable prog nY := C0 func69
abbrev iG : Nat := 70
theorem dS : prog.funcs[iG]? = some f70 := func70
theorem cQ : Callable prog iG := C0 func70
abbrev jD : Nat := 71
theorem bq5 : prog.funcs[jD]? = some f71 := func71
theorem lB : Callable prog jD := C0 func71
abbrev mV : Nat := 72
theorem gz7 : prog.funcs[mV]? = some f72 := func72
theorem qB : Callable prog mV := C0 func72
abbrev mX : Nat := 73
theorem gz9 : prog.funcs[mX]? = some f73 := func73
theorem dq1 : Callable prog mX := C0 func73
abbrev W4 : Nat := 74
theorem nE : prog.funcs[W4]? = some f74 := func74
theorem lM : Callable prog W4 := C0 func74
abbrev I2 : Nat := 75
theorem X3 : prog.funcs[I2]? = some f75 := func75
theorem hC : Callable prog I2 := C0 func75
abbrev M6 : Nat := 76
theorem cN : prog.funcs[M6]? = some f76 := func76
theorem R5 : Callable prog M6 := C0 func76
abbrev iW : Nat := 77
theorem bj2 : prog.funcs[iW]? = some f77 := func77
theorem zU : Callable prog iW := C0 func77
abbrev uY : Nat := 78
theorem lj5 : prog.funcs[uY]? = some f78 := func78
theorem cW : Callable prog uY := C0 func78
abbrev nZ : Nat := 79
theorem ij1 : prog.funcs[nZ]? = some f79 := func79
theorem D1 : Callable prog nZ := C0 func79
abbrev jG : Nat := 80
theorem bq8 : prog.funcs[jG]? = some f80 := func80
theorem zZ : Callable prog jG := C0 func80
abbrev hz9 : Nat := 81
theorem nX : prog.funcs[hz9]? = some f81 := func81
abbrev hz8 : Nat := 82
theorem nW : prog.funcs[hz8]? = some f82 := func82
abbrev cC : Nat := 83
theorem wF : prog.funcs[cC]? = some f83 := func83
theorem uM : Callable prog cC := C0 func83
abbrev dH : Nat := 84
theorem yE : prog.funcs[dH]? = some f84 := func84
theorem wE : Callable prog dH := C0 func84
abbrev uN : Nat := 85
theorem lj0 : prog.funcs[uN]? = some f85 := func85
theorem jq2 : Callable prog uN := C0 func85
abbrev cB : Nat := 86
theorem wC : prog.funcs[cB]? = some f86 := func86
theorem uJ : Callable prog cB := C0 func86
abbrev U8 : Nat := 87
theorem lN : prog.funcs[U8]? = some f87 := func87
theorem kR : Callable prog U8 := C0 func87
abbrev I1 : Nat := 88
theorem X1 : prog.funcs[I1]? = some f88 := func88
theorem gZ : Callable prog I1 := C0 func88
abbrev M9 : Nat := 89
theorem dK : prog.funcs[M9]? = some f89 := func89
theorem cO : Callable prog M9 := C0 func89
abbrev hz4 : Nat := 90
abbrev cD : Nat := 92
theorem wG : prog.funcs[cD]? = some f92 := func92
theorem uO : Callable prog cD := C0 func92
abbrev kG : Nat := 93
theorem dq3 : prog.funcs[kG]? = some f93 := func93
theorem nC : Callable prog kG := C0 func93
abbrev kI : Nat := 94
theorem dq5 : prog.funcs[kI]? = some f94 := func94
theorem nD : Callable prog kI := C0 func94
abbrev hJ : Nat := 95
theorem zY : prog.funcs[hJ]? = some f95 := func95
theorem yH : Callable prog hJ := C0 func95
abbrev pD : Nat := 96
theorem jX : prog.funcs[pD]? = some f96 := func96
theorem wP : Callable prog pD := C0 func96
abbrev Y6 : Nat := 97
theorem pI : prog.funcs[Y6]? = some f97 := func97
theorem nF : Callable prog Y6 := C0 func97
abbrev pB : Nat := 98
theorem jW : prog.funcs[pB]? = some f98 := func98
theorem wO : Callable prog pB := C0 func98
abbrev qY : Nat := 99
theorem jq1 : prog.funcs[qY]? = some f99 := func99
theorem sW : Callable prog qY := C0 func99
abbrev Z4 : Nat := 100
theorem rE : prog.funcs[Z4]? = some f100 := func100
theorem pK : Callable prog Z4 := C0 func100
abbrev L4 : Nat := 101
theorem tA : prog.funcs[L4]? = some f101 := func101
theorem rB : Callable prog L4 := C0 func101
abbrev iU : Nat := 102
theorem bj1 : prog.funcs[iU]? = some f102 := func102
theorem R4 : Callable prog iU := C0 func102
abbrev Y7 : Nat := 103
theorem pJ : prog.funcs[Y7]? = some f103 := func103
theorem nG : Callable prog Y7 := C0 func103
abbrev M5 : Nat := 104
theorem uL : prog.funcs[M5]? = some f104 := func104
theorem sZ : Callable prog M5 := C0 func104
abbrev mW : Nat := 105
theorem gz8 : prog.funcs[mW]? = some f105 := func105
theorem dq0 : Callable prog mW := C0 func105
abbrev aJ : Nat := 106
theorem tD : prog.funcs[aJ]? = some f106 := func106
theorem rD : Callable prog aJ := C0 func106
abbrev D6 : Nat := 107
theorem J7 : prog.funcs[D6]? = some f107 := func107
theorem V7 : Callable prog D6 := C0 func107
abbrev S9 : Nat := 108
theorem jU : prog.funcs[S9]? = some f108 := func108
theorem iE : Callable prog S9 := C0 func108
abbrev L3 : Nat := 109
theorem X2 : prog.funcs[L3]? = some f109 := func109
theorem V8 : Callable prog L3 := C0 func109
abbrev dz4 : Nat := 110
abbrev lj2 : Nat := 111
abbrev rz3 : Nat := 112
abbrev iY : Nat := 113
theorem bj4 : prog.funcs[iY]? = some f113 := func113
theorem zW : Callable prog iY := C0 func113
abbrev iX : Nat := 114
theorem bj3 : prog.funcs[iX]? = some f114 := func114
theorem zV : Callable prog iX := C0 func114
abbrev mz3 : Nat := 115
abbrev lz9 : Nat := 116
abbrev Y5 : Nat := 117
theorem pH : prog.funcs[Y5]? = some f117 := func117
theorem nB : Callable prog Y5 := C0 func117
abbrev W3 : Nat := 118
theorem mZ : prog.funcs[W3]? = some f118 := func118
theorem lL : Callable prog W3 := C0 func118
abbrev U7 : Nat := 119
theorem lK : prog.funcs[U7]? = some f119 := func119
theorem kF : Callable prog U7 := C0 func119
abbrev lj1 : Nat := 120
abbrev kj6 : Nat := 121
abbrev W6 : Nat := 122
theorem nV : prog.funcs[W6]? = some f122 := func122
theorem lP : Callable prog W6 := C0 func122
abbrev rz4 : Nat := 123
abbrev bD : Nat := 124
theorem uQ : prog.funcs[bD]? = some f124 := func124
theorem tE : Callable prog bD := C0 func124
abbrev cE : Nat := 125
theorem wH : prog.funcs[cE]? = some f125 := func125
theorem uS : Callable prog cE := C0 func125
abbrev bE : Nat := 126
theorem uR : prog.funcs[bE]? = some f126 := func126
theorem tF : Callable prog bE := C0 func126
abbrev aI : Nat := 127
theorem sY : prog.funcs[aI]? = some f127 := func127
theorem rA : Callable prog aI := C0 func127
abbrev jA : Nat := 128
theorem bj8 : prog.funcs[jA]? = some f128 := func128
theorem zX : Callable prog jA := C0 func128
abbrev jq5 : Nat := 129
abbrev jq4 : Nat := 130
abbrev bz0 : Nat := 131
abbrev bj0 : Nat := 132
abbrev Q0 : Nat := 134
theorem iB : prog.funcs[Q0]? = some f134 := func134
theorem gW : Callable prog Q0 := C0 func134
abbrev Q6 : Nat := 135
theorem iV : prog.funcs[Q6]? = some f135 := func135
theorem X0 : Callable prog Q6 := C0 func135
abbrev mz4 : Nat := 136
abbrev yD : Nat := 137
abbrev jq8 : Nat := 138
abbrev pj3 : Nat := 139
abbrev px1 : Nat := 140
abbrev qx3 : Nat := 141
abbrev mz5 : Nat := 142
abbrev H2 : Nat := 144
theorem K5 : prog.funcs[H2]? = some f144 := func144
theorem wI : Callable prog H2 := C0 func144
abbrev yC : Nat := 145
abbrev kj7 : Nat := 147
abbrev vN : Nat := 148
abbrev qx2 : Nat := 149
abbrev lx8 : Nat := 150
abbrev iz2 : Nat := 151
abbrev iz1 : Nat := 152
abbrev xz6 : Nat := 153
abbrev bq4 : Nat := 154
abbrev lx7 : Nat := 155
abbrev lx9 : Nat := 156
abbrev dz3 : Nat := 157
abbrev R6 : Nat := 174
theorem wJ : prog.funcs[R6]? = some f174 := func174
theorem uX : Callable prog R6 := C0 func174
abbrev U2 : Nat := 175
theorem yL : prog.funcs[U2]? = some f175 := func175
theorem wM : Callable prog U2 := C0 func175
abbrev U1 : Nat := 176
theorem yK : prog.funcs[U1]? = some f176 := func176
theorem wL : Callable prog U1 := C0 func176
abbrev O4 : Nat := 179
theorem sX : prog.funcs[O4]? = some f179 := func179
theorem qZ : Callable prog O4 := C0 func179
abbrev O5 : Nat := 180
theorem tB : prog.funcs[O5]? = some f180 := func180
theorem rC : Callable prog O5 := C0 func180
abbrev R3 : Nat := 181
theorem wD : prog.funcs[R3]? = some f181 := func181
theorem uK : Callable prog R3 := C0 func181
abbrev sz7 : Nat := 195
end F
namespace T
abbrev vj4 : Nat := 2
theorem rj5 : prog.underlying vj4 = some (.int .i64) := underlying2
abbrev H8 : Nat := 3
theorem X8 : prog.underlying H8 = some (.int .i64) := underlying3
theorem m9 : Sz prog H8 1 := cK
theorem b9 : NoR prog H8 := ⟨_, underlying3, rfl⟩
abbrev cq0 : Nat := 4
theorem iK : Sz prog cq0 1 := cK
theorem lE : NoR prog cq0 := ⟨_, underlying4, rfl⟩
abbrev vj3 : Nat := 5
theorem aM : prog.underlying vj3 = some (.int .u8) := underlying5
theorem dZ : Sz prog vj3 1 := cK
theorem rj7 : NoR prog vj3 := ⟨_, underlying5, rfl⟩
abbrev aD : Nat := 9
theorem l5 : prog.underlying aD = some (.string) := underlying9
theorem m7 : Sz prog aD 1 := cK
theorem l3 : NoR prog aD := ⟨_, underlying9, rfl⟩
abbrev xz8 : Nat := 20
abbrev yj5 : Nat := 21
abbrev Y0 : Nat := 23
theorem u3 : Sz prog Y0 6 := cK
theorem C2 : IsR prog Y0 := ⟨_, underlying23, rfl⟩
abbrev cj1 : Nat := 24
theorem l8 : prog.underlying cj1 = some (.slice 3) := underlying24
theorem tT : Sz prog cj1 1 := cK
theorem k8 : NoR prog cj1 := ⟨_, underlying24, rfl⟩
theorem mG : ElT prog cj1 3 1 8 := ElT.of (z := (.int .i64 0)) underlying24 p9 rfl (by decide)
abbrev Z6 : Nat := 25
theorem u0 : prog.underlying Z6 = some (.slice 52) := underlying25
theorem J9 : Sz prog Z6 1 := cK
theorem k4 : NoR prog Z6 := ⟨_, underlying25, rfl⟩
theorem L8 : ElT prog Z6 52 3 24 := ElT.of (z := (.agg #[(.int .i64 0), (.int .i64 0), (.int .i64 0)])) underlying25 p9 rfl (by decide)
abbrev r7 : Nat := 27
theorem j7 : Sz prog r7 8 := cK
theorem l6 : IsR prog r7 := ⟨_, underlying27, rfl⟩
abbrev nq5 : Nat := 31
abbrev kx1 : Nat := 33
theorem iI : prog.underlying kx1 = some (.slice 27) := underlying33
abbrev sq4 : Nat := 34
theorem p8 : prog.underlying sq4 = some (.slice 9) := underlying34
theorem tU : ElT prog sq4 9 1 16 := ElT.of (z := (.string ⟨#[]⟩)) underlying34 p9 rfl (by decide)
abbrev xz9 : Nat := 35
abbrev rj9 : Nat := 39
theorem K7 : prog.underlying rj9 = some (.slice 5) := underlying39
abbrev C6 : Nat := 52
theorem d7 : Sz prog C6 3 := cK
theorem i9 : IsR prog C6 := ⟨_, underlying52, rfl⟩
abbrev lz1 : Nat := 55
theorem Q5 : prog.underlying lz1 = some (.slice 105) := underlying55
abbrev xL : Nat := 58
theorem J1 : prog.underlying xL = some (.slice 119) := underlying58
theorem R0 : NoR prog xL := ⟨_, underlying58, rfl⟩
abbrev aj1 : Nat := 59
theorem B4 : prog.underlying aj1 = some (.slice 114) := underlying59
theorem D4 : NoR prog aj1 := ⟨_, underlying59, rfl⟩
abbrev B7 : Nat := 61
theorem E6 : Sz prog B7 2 := cK
theorem E8 : IsR prog B7 := ⟨_, underlying61, rfl⟩
abbrev vH : Nat := 68
theorem mF : Sz prog vH 1 := cK
theorem xD : NoR prog vH := ⟨_, underlying68, rfl⟩
abbrev rj6 : Nat := 70
theorem mE : prog.underlying rj6 = some (.int .u64) := underlying70
theorem lS : Sz prog rj6 1 := cK
theorem P7 : NoR prog rj6 := ⟨_, underlying70, rfl⟩
abbrev wW : Nat := 72
abbrev gx0 : Nat := 75
theorem U3 : NoR prog gx0 := ⟨_, underlying75, rfl⟩
abbrev vj6 : Nat := 79
abbrev M7 : Nat := 96
theorem E7 : Sz prog M7 3 := cK
theorem L9 : IsR prog M7 := ⟨_, underlying96, rfl⟩
abbrev iA : Nat := 98
theorem bY : NoR prog iA := ⟨_, underlying98, rfl⟩
abbrev C3 : Nat := 100
theorem S3 : Sz prog C3 5 := cK
abbrev xK : Nat := 101
theorem rS : prog.underlying xK = some (.slice 96) := underlying101
theorem cj5 : ElT prog xK 96 3 40 := ElT.of (z := (.agg #[(.slice none 0 0), (.int .i64 0), (.int .i64 0)])) underlying101 p9 rfl (by decide)
abbrev ix3 : Nat := 105
theorem aS : Sz prog ix3 2 := cK
theorem jj3 : IsR prog ix3 := ⟨_, underlying105, rfl⟩
abbrev xM : Nat := 108
theorem cI : prog.underlying xM = some (.slice 116) := underlying108
theorem kq6 : Sz prog xM 1 := cK
theorem gq6 : NoR prog xM := ⟨_, underlying108, rfl⟩
abbrev xz7 : Nat := 110
theorem gq3 : prog.underlying xz7 = some (.int .u64) := underlying110
abbrev lz0 : Nat := 111
theorem vG : prog.underlying lz0 = some (.int .u64) := underlying111
abbrev pT : Nat := 114
theorem J8 : Sz prog pT 4 := cK
theorem kA : IsR prog pT := ⟨_, underlying114, rfl⟩
abbrev U9 : Nat := 116
theorem pz2 : prog.underlying U9 = some (.slice 4) := underlying116
theorem lD : Sz prog U9 1 := cK
theorem xE : NoR prog U9 := ⟨_, underlying116, rfl⟩
theorem nq1 : ElT prog U9 4 1 1 := ElT.of (z := (.bool false)) underlying116 p9 rfl (by decide)
abbrev tx1 : Nat := 117
abbrev cq3 : Nat := 119
theorem L6 : Sz prog cq3 2 := cK
theorem iL : IsR prog cq3 := ⟨_, underlying119, rfl⟩
abbrev vj5 : Nat := 122
abbrev cJ : Nat := 124
theorem gq5 : Sz prog cJ 1 := cK
abbrev gE : Nat := 126
theorem jj2 : Sz prog gE 2 := cK
abbrev lG : Nat := 127
theorem jj1 : Sz prog lG 2 := cK
abbrev ix2 : Nat := 130
theorem kq5 : Sz prog ix2 0 := cK
abbrev vj7 : Nat := 134
abbrev qP : Nat := 138
theorem C1 : NoR prog qP := ⟨_, underlying138, rfl⟩
abbrev L7 : Nat := 141
theorem B6 : Sz prog L7 2 := cK
theorem H7 : IsR prog L7 := ⟨_, underlying141, rfl⟩
abbrev iD : Nat := 149
theorem qN : Sz prog iD 1 := cK
theorem w7 : NoR prog iD := ⟨_, underlying149, rfl⟩
abbrev cj6 : Nat := 150
theorem jj0 : Sz prog cj6 1 := cK
theorem pR : NoR prog cj6 := ⟨_, underlying150, rfl⟩
abbrev cq4 : Nat := 151
theorem Q9 : prog.underlying cq4 = some (.slice 141) := underlying151
abbrev gq7 : Nat := 154
theorem zH : Sz prog gq7 2 := cK
abbrev uz1 : Nat := 157
abbrev cq5 : Nat := 160
theorem wY : prog.underlying cq5 = some (.array 24 5) := underlying160
abbrev yj6 : Nat := 168
abbrev nq0 : Nat := 174
abbrev pq7 : Nat := 176
abbrev Y9 : Nat := 179
theorem wX : prog.underlying Y9 = some (.slice 205) := underlying179
theorem vR : Sz prog Y9 1 := cK
theorem dP : NoR prog Y9 := ⟨_, underlying179, rfl⟩
theorem vW : ElT prog Y9 205 1 1 := ElT.of (z := (.int .u8 0)) underlying179 p9 rfl (by decide)
abbrev cT : Nat := 180
theorem dY : prog.underlying cT = some (.slice 185) := underlying180
theorem cZ : Sz prog cT 1 := cK
theorem M0 : NoR prog cT := ⟨_, underlying180, rfl⟩
theorem dB : ElT prog cT 185 1 16 := ElT.of (z := .nilIface) underlying180 p9 rfl (by decide)
abbrev qM : Nat := 182
abbrev yj3 : Nat := 183
abbrev Z9 : Nat := 185
theorem gq4 : Sz prog Z9 1 := cK
theorem aq3 : NoR prog Z9 := ⟨_, underlying185, rfl⟩
abbrev xz5 : Nat := 187
abbrev tq9 : Nat := 188
theorem ix1 : prog.underlying tq9 = some (.int .u32) := underlying188
abbrev yj0 : Nat := 189
abbrev N1 : Nat := 195
theorem iC : prog.underlying N1 = some (.array 256 4) := underlying195
theorem R7 : Sz prog N1 256 := cK
theorem dO : IsR prog N1 := ⟨_, underlying195, rfl⟩
abbrev pq9 : Nat := 199
abbrev jj4 : Nat := 201
theorem dX : prog.underlying jj4 = some (.map 3 4) := underlying201
abbrev iJ : Nat := 205
theorem zG : Sz prog iJ 1 := cK
theorem vX : NoR prog iJ := ⟨_, underlying205, rfl⟩
abbrev rT : Nat := 208
abbrev rU : Nat := 210
abbrev wZ : Nat := 212
abbrev tx0 : Nat := 220
abbrev px0 : Nat := 223
abbrev yj2 : Nat := 230
abbrev yj1 : Nat := 231
abbrev rj0 : Nat := 237
abbrev xz4 : Nat := 239
abbrev qz9 : Nat := 241
abbrev mj8 : Nat := 242
abbrev yj4 : Nat := 246
abbrev mj7 : Nat := 247
abbrev pq8 : Nat := 249
theorem N7 (p : Addr) (w : World) : (Instr.fieldAt 23 (.pointer (some p)) 0).run prog w = .ok (.pointer (some (p.add 0))) w := p9
theorem N6 (p : Addr) (w : World) : (Instr.fieldAt 23 (.pointer (some p)) 1).run prog w = .ok (.pointer (some (p.add 1))) w := p9
theorem N5 (p : Addr) (w : World) : (Instr.fieldAt 23 (.pointer (some p)) 2).run prog w = .ok (.pointer (some (p.add 2))) w := p9
theorem N4 (p : Addr) (w : World) : (Instr.fieldAt 23 (.pointer (some p)) 3).run prog w = .ok (.pointer (some (p.add 3))) w := p9
theorem N3 (p : Addr) (w : World) : (Instr.fieldAt 23 (.pointer (some p)) 4).run prog w = .ok (.pointer (some (p.add 4))) w := p9
theorem N2 (p : Addr) (w : World) : (Instr.fieldAt 23 (.pointer (some p)) 5).run prog w = .ok (.pointer (some (p.add 5))) w := p9
theorem E9 (p : Addr) (w : World) : (Instr.fieldAt 27 (.pointer (some p)) 0).run prog w = .ok (.pointer (some (p.add 0))) w := p9
theorem q9 (p : Addr) (w : World) : (Instr.fieldAt 27 (.pointer (some p)) 1).run prog w = .ok (.pointer (some (p.add 6))) w := p9
theorem m5 (p : Addr) (w : World) : (Instr.fieldAt 27 (.pointer (some p)) 2).run prog w = .ok (.pointer (some (p.add 7))) w := p9
theorem I6 (p : Addr) (w : World) : (Instr.fieldAt 52 (.pointer (some p)) 0).run prog w = .ok (.pointer (some (p.add 0))) w := p9
theorem A9 (p : Addr) (w : World) : (Instr.fieldAt 52 (.pointer (some p)) 1).run prog w = .ok (.pointer (some (p.add 1))) w := p9
theorem z9 (p : Addr) (w : World) : (Instr.fieldAt 52 (.pointer (some p)) 2).run prog w = .ok (.pointer (some (p.add 2))) w := p9
theorem S7 (p : Addr) (w : World) : (Instr.fieldAt 61 (.pointer (some p)) 0).run prog w = .ok (.pointer (some (p.add 0))) w := p9
theorem D3 (p : Addr) (w : World) : (Instr.fieldAt 61 (.pointer (some p)) 1).run prog w = .ok (.pointer (some (p.add 1))) w := p9
theorem bV (p : Addr) (w : World) : (Instr.fieldAt 72 (.pointer (some p)) 0).run prog w = .ok (.pointer (some (p.add 0))) w := p9
theorem O1 (p : Addr) (w : World) : (Instr.fieldAt 72 (.pointer (some p)) 1).run prog w = .ok (.pointer (some (p.add 1))) w := p9
theorem y7 (p : Addr) (w : World) : (Instr.fieldAt 72 (.pointer (some p)) 2).run prog w = .ok (.pointer (some (p.add 2))) w := p9
theorem G7 (p : Addr) (w : World) : (Instr.fieldAt 96 (.pointer (some p)) 0).run prog w = .ok (.pointer (some (p.add 0))) w := p9
theorem V3 (p : Addr) (w : World) : (Instr.fieldAt 96 (.pointer (some p)) 1).run prog w = .ok (.pointer (some (p.add 1))) w := p9
theorem H9 (p : Addr) (w : World) : (Instr.fieldAt 96 (.pointer (some p)) 2).run prog w = .ok (.pointer (some (p.add 2))) w := p9
theorem A8 (p : Addr) (w : World) : (Instr.fieldAt 100 (.pointer (some p)) 0).run prog w = .ok (.pointer (some (p.add 0))) w := p9
theorem H3 (p : Addr) (w : World) : (Instr.fieldAt 100 (.pointer (some p)) 1).run prog w = .ok (.pointer (some (p.add 3))) w := p9
theorem bK (p : Addr) (w : World) : (Instr.fieldAt 100 (.pointer (some p)) 2).run prog w = .ok (.pointer (some (p.add 4))) w := p9
theorem rW (p : Addr) (w : World) : (Instr.fieldAt 105 (.pointer (some p)) 0).run prog w = .ok (.pointer (some (p.add 0))) w := p9
theorem rV (p : Addr) (w : World) : (Instr.fieldAt 105 (.pointer (some p)) 1).run prog w = .ok (.pointer (some (p.add 1))) w := p9
theorem X9 (p : Addr) (w : World) : (Instr.fieldAt 114 (.pointer (some p)) 0).run prog w = .ok (.pointer (some (p.add 0))) w := p9
theorem P0 (p : Addr) (w : World) : (Instr.fieldAt 114 (.pointer (some p)) 1).run prog w = .ok (.pointer (some (p.add 1))) w := p9
theorem O9 (p : Addr) (w : World) : (Instr.fieldAt 114 (.pointer (some p)) 2).run prog w = .ok (.pointer (some (p.add 2))) w := p9
theorem O8 (p : Addr) (w : World) : (Instr.fieldAt 114 (.pointer (some p)) 3).run prog w = .ok (.pointer (some (p.add 3))) w := p9
theorem gD (p : Addr) (w : World) : (Instr.fieldAt 119 (.pointer (some p)) 0).run prog w = .ok (.pointer (some (p.add 0))) w := p9
theorem aN (p : Addr) (w : World) : (Instr.fieldAt 119 (.pointer (some p)) 1).run prog w = .ok (.pointer (some (p.add 1))) w := p9
theorem aq0 (p : Addr) (w : World) : (Instr.fieldAt 124 (.pointer (some p)) 0).run prog w = .ok (.pointer (some (p.add 0))) w := p9
theorem pQ (p : Addr) (w : World) : (Instr.fieldAt 126 (.pointer (some p)) 0).run prog w = .ok (.pointer (some (p.add 0))) w := p9
theorem pP (p : Addr) (w : World) : (Instr.fieldAt 126 (.pointer (some p)) 1).run prog w = .ok (.pointer (some (p.add 1))) w := p9
theorem cj2 (p : Addr) (w : World) : (Instr.fieldAt 127 (.pointer (some p)) 0).run prog w = .ok (.pointer (some (p.add 0))) w := p9
theorem pO (p : Addr) (w : World) : (Instr.fieldAt 127 (.pointer (some p)) 1).run prog w = .ok (.pointer (some (p.add 1))) w := p9
theorem aU (p : Addr) (w : World) : (Instr.fieldAt 141 (.pointer (some p)) 0).run prog w = .ok (.pointer (some (p.add 0))) w := p9
theorem aT (p : Addr) (w : World) : (Instr.fieldAt 141 (.pointer (some p)) 1).run prog w = .ok (.pointer (some (p.add 1))) w := p9
theorem vV (p : Addr) (w : World) : (Instr.fieldAt 154 (.pointer (some p)) 0).run prog w = .ok (.pointer (some (p.add 0))) w := p9
theorem vU (p : Addr) (w : World) : (Instr.fieldAt 154 (.pointer (some p)) 1).run prog w = .ok (.pointer (some (p.add 1))) w := p9
theorem dA (p : Addr) (w : World) : (Instr.fieldAt 182 (.pointer (some p)) 1).run prog w = .ok (.pointer (some (p.add 2))) w := p9
theorem I5 (p : Addr) (w : World) : (Instr.fieldAt 182 (.pointer (some p)) 2).run prog w = .ok (.pointer (some (p.add 3))) w := p9
theorem vS (p : Addr) (w : World) : (Instr.fieldAt 208 (.pointer (some p)) 0).run prog w = .ok (.pointer (some (p.add 0))) w := p9
theorem vT (p : Addr) (w : World) : (Instr.fieldAt 210 (.pointer (some p)) 1).run prog w = .ok (.pointer (some (p.add 1))) w := p9
theorem zI (p : Addr) (w : World) : (Instr.fieldAt 212 (.pointer (some p)) 0).run prog w = .ok (.pointer (some (p.add 0))) w := p9
theorem yT (w : World) : (Instr.alloc 3 true (.tuple #[])).run prog w = .ok (.pointer (some ⟨w.heap.size, 0, none⟩)) (w.alloc (.cells #[(.int .i64 0)] 3 (0, 0))) := p9
theorem aO (w : World) : (Instr.alloc 23 true (.tuple #[])).run prog w = .ok (.pointer (some ⟨w.heap.size, 0, none⟩)) (w.alloc (.cells #[(.int .i64 0), (.int .i64 0), (.int .i64 0), (.int .i64 0), (.int .i64 0), (.int .i64 0)] 23 (0, 0))) := p9
theorem rj8 (w : World) : (Instr.alloc 24 true (.tuple #[])).run prog w = .ok (.pointer (some ⟨w.heap.size, 0, none⟩)) (w.alloc (.cells #[(.slice none 0 0)] 24 (0, 0))) := p9
theorem G5 (w : World) : (Instr.alloc 27 true (.tuple #[])).run prog w = .ok (.pointer (some ⟨w.heap.size, 0, none⟩)) (w.alloc (.cells #[(.int .i64 0), (.int .i64 0), (.int .i64 0), (.int .i64 0), (.int .i64 0), (.int .i64 0), (.slice none 0 0), (.slice none 0 0)] 27 (0, 0))) := p9
theorem J2 (w : World) : (Instr.alloc 52 true (.tuple #[])).run prog w = .ok (.pointer (some ⟨w.heap.size, 0, none⟩)) (w.alloc (.cells #[(.int .i64 0), (.int .i64 0), (.int .i64 0)] 52 (0, 0))) := p9
theorem gq9 (w : World) : (Instr.alloc 61 true (.tuple #[])).run prog w = .ok (.pointer (some ⟨w.heap.size, 0, none⟩)) (w.alloc (.cells #[(.slice none 0 0), (.slice none 0 0)] 61 (0, 0))) := p9
theorem kC (w : World) : (Instr.alloc 96 true (.tuple #[])).run prog w = .ok (.pointer (some ⟨w.heap.size, 0, none⟩)) (w.alloc (.cells #[(.slice none 0 0), (.int .i64 0), (.int .i64 0)] 96 (0, 0))) := p9
theorem S4 (w : World) : (Instr.alloc 100 true (.tuple #[])).run prog w = .ok (.pointer (some ⟨w.heap.size, 0, none⟩)) (w.alloc (.cells #[(.slice none 0 0), (.int .i64 0), (.int .i64 0), (.bool false), .nilFunc] 100 (0, 0))) := p9
theorem kq9 (w : World) : (Instr.alloc 105 true (.tuple #[])).run prog w = .ok (.pointer (some ⟨w.heap.size, 0, none⟩)) (w.alloc (.cells #[(.int .i64 0), (.int .i64 0)] 105 (0, 0))) := p9
theorem kx0 (w : World) : (Instr.alloc 108 true (.tuple #[])).run prog w = .ok (.pointer (some ⟨w.heap.size, 0, none⟩)) (w.alloc (.cells #[(.slice none 0 0)] 108 (0, 0))) := p9
theorem xJ (w : World) : (Instr.alloc 114 true (.tuple #[])).run prog w = .ok (.pointer (some ⟨w.heap.size, 0, none⟩)) (w.alloc (.cells #[(.string ⟨#[]⟩), (.int .i64 0), (.int .i64 0), (.slice none 0 0)] 114 (0, 0))) := p9
theorem vI (w : World) : (Instr.alloc 119 true (.tuple #[])).run prog w = .ok (.pointer (some ⟨w.heap.size, 0, none⟩)) (w.alloc (.cells #[(.string ⟨#[]⟩), (.int .i64 0)] 119 (0, 0))) := p9
theorem gq8 (w : World) : (Instr.alloc 124 true (.tuple #[])).run prog w = .ok (.pointer (some ⟨w.heap.size, 0, none⟩)) (w.alloc (.cells #[(.pointer none)] 124 (0, 0))) := p9
theorem jj7 (w : World) : (Instr.alloc 126 true (.tuple #[])).run prog w = .ok (.pointer (some ⟨w.heap.size, 0, none⟩)) (w.alloc (.cells #[(.pointer none), (.int .i64 0)] 126 (0, 0))) := p9
theorem jj6 (w : World) : (Instr.alloc 127 true (.tuple #[])).run prog w = .ok (.pointer (some ⟨w.heap.size, 0, none⟩)) (w.alloc (.cells #[(.pointer none), (.int .i64 0)] 127 (0, 0))) := p9
theorem kq8 (w : World) : (Instr.alloc 130 true (.tuple #[])).run prog w = .ok (.pointer (some ⟨w.heap.size, 0, none⟩)) (w.alloc (.cells #[] 130 (0, 0))) := p9
theorem aq9 (w : World) : (Instr.alloc 141 true (.tuple #[])).run prog w = .ok (.pointer (some ⟨w.heap.size, 0, none⟩)) (w.alloc (.cells #[(.int .i64 0), .nilFunc] 141 (0, 0))) := p9
theorem qQ (w : World) : (Instr.alloc 149 true (.tuple #[])).run prog w = .ok (.pointer (some ⟨w.heap.size, 0, none⟩)) (w.alloc (.cells #[(.chan none)] 149 (0, 0))) := p9
theorem jj5 (w : World) : (Instr.alloc 150 true (.tuple #[])).run prog w = .ok (.pointer (some ⟨w.heap.size, 0, none⟩)) (w.alloc (.cells #[(.chan none)] 150 (0, 0))) := p9
theorem zP (w : World) : (Instr.alloc 154 true (.tuple #[])).run prog w = .ok (.pointer (some ⟨w.heap.size, 0, none⟩)) (w.alloc (.cells #[(.int .i64 0), (.int .i64 0)] 154 (0, 0))) := p9
theorem jj8 (w : World) : (Instr.alloc 160 true (.tuple #[])).run prog w = .ok (.pointer (some ⟨w.heap.size, 0, none⟩)) (w.alloc (.cells #[(.int .u8 0), (.int .u8 0), (.int .u8 0), (.int .u8 0), (.int .u8 0), (.int .u8 0), (.int .u8 0), (.int .u8 0), (.int .u8 0), (.int .u8 0), (.int .u8 0), (.int .u8 0), (.int .u8 0), (.int .u8 0), (.int .u8 0), (.int .u8 0), (.int .u8 0), (.int .u8 0), (.int .u8 0), (.int .u8 0), (.int .u8 0), (.int .u8 0), (.int .u8 0), (.int .u8 0)] 160 (0, 0))) := p9
theorem gG (w : World) : (Instr.alloc 195 true (.tuple #[])).run prog w = .ok (.pointer (some ⟨w.heap.size, 0, none⟩)) (w.alloc (.cells (Array.replicate 256 (.bool false)) 195 (0, 0))) := p9
theorem S8  (w : World) : (Instr.build 23 #[]).run prog w = .ok (.agg #[(.int .i64 0), (.int .i64 0), (.int .i64 0), (.int .i64 0), (.int .i64 0), (.int .i64 0)]) w := p9
theorem K9 (x1 : Int) (x2 : Int) (x3 : Int) (x4 : Int) (x5 : Int) (x6 : Int) (w : World) : (Instr.build 23 #[(0, (.int .i64 x1)), (1, (.int .i64 x2)), (2, (.int .i64 x3)), (3, (.int .i64 x4)), (4, (.int .i64 x5)), (5, (.int .i64 x6))]).run prog w = .ok (.agg #[(.int .i64 x1), (.int .i64 x2), (.int .i64 x3), (.int .i64 x4), (.int .i64 x5), (.int .i64 x6)]) w := p9
theorem K8  (w : World) : (Instr.build 27 #[]).run prog w = .ok (.agg #[(.int .i64 0), (.int .i64 0), (.int .i64 0), (.int .i64 0), (.int .i64 0), (.int .i64 0), (.slice none 0 0), (.slice none 0 0)]) w := p9
theorem cq1 (x1 : Int) (x2 : Int) (x3 : Int) (x4 : Int) (x5 : Int) (x6 : Int) (w : World) : (Instr.build 27 #[(0, (.agg #[(.int .i64 x1), (.int .i64 x2), (.int .i64 x3), (.int .i64 x4), (.int .i64 x5), (.int .i64 x6)]))]).run prog w = .ok (.agg #[(.int .i64 x1), (.int .i64 x2), (.int .i64 x3), (.int .i64 x4), (.int .i64 x5), (.int .i64 x6), (.slice none 0 0), (.slice none 0 0)]) w := p9
theorem vZ (x1 : Int) (x2 : Int) (x3 : Int) (x4 : Int) (x5 : Int) (x6 : Int) (x7 : Option Addr) (x8 : Nat) (x9 : Nat) (x10 : Option Addr) (x11 : Nat) (x12 : Nat) (w : World) : (Instr.build 27 #[(0, (.agg #[(.int .i64 x1), (.int .i64 x2), (.int .i64 x3), (.int .i64 x4), (.int .i64 x5), (.int .i64 x6)])), (1, (.slice x7 x8 x9)), (2, (.slice x10 x11 x12))]).run prog w = .ok (.agg #[(.int .i64 x1), (.int .i64 x2), (.int .i64 x3), (.int .i64 x4), (.int .i64 x5), (.int .i64 x6), (.slice x7 x8 x9), (.slice x10 x11 x12)]) w := p9
theorem E3 (x1 : Int) (x2 : Int) (x3 : Int) (w : World) : (Instr.build 52 #[(0, (.int .i64 x1)), (1, (.int .i64 x2)), (2, (.int .i64 x3))]).run prog w = .ok (.agg #[(.int .i64 x1), (.int .i64 x2), (.int .i64 x3)]) w := p9
theorem aq8 (x1 : Int) (w : World) : (Instr.build 52 #[(2, (.int .i64 x1))]).run prog w = .ok (.agg #[(.int .i64 0), (.int .i64 0), (.int .i64 x1)]) w := p9
theorem xH (x1 : Option Addr) (x2 : Nat) (x3 : Nat) (x4 : Option Addr) (x5 : Nat) (x6 : Nat) (w : World) : (Instr.build 61 #[(0, (.slice x1 x2 x3)), (1, (.slice x4 x5 x6))]).run prog w = .ok (.agg #[(.slice x1 x2 x3), (.slice x4 x5 x6)]) w := p9
theorem lH (x1 : Option Addr) (x2 : Nat) (x3 : Nat) (x4 : Int) (w : World) : (Instr.build 72 #[(0, (.slice x1 x2 x3)), (2, (.int .u64 x4))]).run prog w = .ok (.agg #[(.slice x1 x2 x3), (.int .i64 0), (.int .u64 x4)]) w := p9
theorem pS (x1 : Option Addr) (x2 : Nat) (x3 : Nat) (w : World) : (Instr.build 96 #[(0, (.slice x1 x2 x3))]).run prog w = .ok (.agg #[(.slice x1 x2 x3), (.int .i64 0), (.int .i64 0)]) w := p9
theorem Q2 (x1 : Fn) (x2 : Array Value) (x3 : Array Value) (w : World) : (Instr.build 100 #[(2, (.func x1 x2 x3))]).run prog w = .ok (.agg #[(.slice none 0 0), (.int .i64 0), (.int .i64 0), (.bool false), (.func x1 x2 x3)]) w := p9
theorem dC (x1 : Int) (x2 : Int) (w : World) : (Instr.build 105 #[(0, (.int .i64 x1)), (1, (.int .i64 x2))]).run prog w = .ok (.agg #[(.int .i64 x1), (.int .i64 x2)]) w := p9
theorem V4 (x1 : ByteArray) (x2 : Int) (x3 : Int) (w : World) : (Instr.build 114 #[(0, (.string x1)), (1, (.int .i64 x2)), (2, (.int .i64 x3))]).run prog w = .ok (.agg #[(.string x1), (.int .i64 x2), (.int .i64 x3), (.slice none 0 0)]) w := p9
theorem tW (x1 : ByteArray) (x2 : Int) (x3 : Int) (x4 : Option Addr) (x5 : Nat) (x6 : Nat) (w : World) : (Instr.build 114 #[(0, (.string x1)), (1, (.int .i64 x2)), (2, (.int .i64 x3)), (3, (.slice x4 x5 x6))]).run prog w = .ok (.agg #[(.string x1), (.int .i64 x2), (.int .i64 x3), (.slice x4 x5 x6)]) w := p9
theorem xI (x1 : ByteArray) (x2 : Int) (x3 : Option Addr) (x4 : Nat) (x5 : Nat) (w : World) : (Instr.build 114 #[(0, (.string x1)), (2, (.int .i64 x2)), (3, (.slice x3 x4 x5))]).run prog w = .ok (.agg #[(.string x1), (.int .i64 0), (.int .i64 x2), (.slice x3 x4 x5)]) w := p9
theorem cq2 (x1 : ByteArray) (w : World) : (Instr.build 119 #[(0, (.string x1))]).run prog w = .ok (.agg #[(.string x1), (.int .i64 0)]) w := p9
theorem bZ (x1 : ByteArray) (x2 : Int) (w : World) : (Instr.build 119 #[(0, (.string x1)), (1, (.int .i64 x2))]).run prog w = .ok (.agg #[(.string x1), (.int .i64 x2)]) w := p9
theorem pF (x1 : Int) (x2 : Int) (x3 : Int) (x4 : Int) (w : World) : (Instr.build 122 #[(0, (.int .i64 x1)), (1, (.int .i64 x2)), (2, (.int .i64 x3)), (3, (.int .i64 x4))]).run prog w = .ok (.agg #[(.int .i64 x1), (.int .i64 x2), (.int .i64 x3), (.int .i64 x4)]) w := p9
theorem aq7 (x1 : Option Addr) (w : World) : (Instr.build 124 #[(0, (.pointer x1))]).run prog w = .ok (.agg #[(.pointer x1)]) w := p9
theorem zO (x1 : Option Addr) (x2 : Int) (w : World) : (Instr.build 126 #[(0, (.pointer x1)), (1, (.int .i64 x2))]).run prog w = .ok (.agg #[(.pointer x1), (.int .i64 x2)]) w := p9
theorem zN (x1 : Option Addr) (x2 : Int) (w : World) : (Instr.build 127 #[(0, (.pointer x1)), (1, (.int .i64 x2))]).run prog w = .ok (.agg #[(.pointer x1), (.int .i64 x2)]) w := p9
theorem I8  (w : World) : (Instr.build 130 #[]).run prog w = .ok (.agg #[]) w := p9
theorem dQ (x1 : Int) (x2 : Int) (w : World) : (Instr.build 154 #[(0, (.int .i64 x1)), (1, (.int .i64 x2))]).run prog w = .ok (.agg #[(.int .i64 x1), (.int .i64 x2)]) w := p9
theorem aq6 (x1 : Option Addr) (x2 : Nat) (x3 : Nat) (x4 : Option Addr) (x5 : Nat) (x6 : Nat) (w : World) : (Instr.build 182 #[(0, (.agg #[(.slice x1 x2 x3), (.slice x4 x5 x6)]))]).run prog w = .ok (.agg #[(.slice x1 x2 x3), (.slice x4 x5 x6), (.slice none 0 0), (.slice none 0 0)]) w := p9
theorem vY (x1 : Int) (w : World) : (Instr.build 208 #[(0, (.int .i64 x1))]).run prog w = .ok (.agg #[(.int .i64 x1)]) w := p9
theorem rY (x1 : Int) (x2 : Option Addr) (x3 : Nat) (x4 : Nat) (w : World) : (Instr.build 210 #[(0, (.int .i64 x1)), (1, (.slice x2 x3 x4))]).run prog w = .ok (.agg #[(.int .i64 x1), (.slice x2 x3 x4)]) w := p9
theorem zM (x1 : Option Addr) (x2 : Nat) (x3 : Nat) (w : World) : (Instr.build 212 #[(0, (.slice x1 x2 x3))]).run prog w = .ok (.agg #[(.slice x1 x2 x3)]) w := p9
theorem R8 (x1 : Int) (w : World) : (Instr.buildSlice 24 1 #[(0, (.int .i64 x1))]).run prog w = .ok (.slice (some ⟨w.heap.size, 0, none⟩) 1 1) (w.alloc (.cells #[(.int .i64 x1)] 3 (0, 0))) := p9
theorem tV (x1 : Int) (x2 : Int) (w : World) : (Instr.buildSlice 24 2 #[(0, (.int .i64 x1)), (1, (.int .i64 x2))]).run prog w = .ok (.slice (some ⟨w.heap.size, 0, none⟩) 2 2) (w.alloc (.cells #[(.int .i64 x1), (.int .i64 x2)] 3 (0, 0))) := p9
theorem bM (x1 : Int) (x2 : Int) (x3 : Int) (w : World) : (Instr.buildSlice 24 3 #[(0, (.int .i64 x1)), (1, (.int .i64 x2)), (2, (.int .i64 x3))]).run prog w = .ok (.slice (some ⟨w.heap.size, 0, none⟩) 3 3) (w.alloc (.cells #[(.int .i64 x1), (.int .i64 x2), (.int .i64 x3)] 3 (0, 0))) := p9
theorem cj9 (x1 : Int) (x2 : Int) (x3 : Int) (x4 : Int) (w : World) : (Instr.buildSlice 24 4 #[(0, (.int .i64 x1)), (1, (.int .i64 x2)), (2, (.int .i64 x3)), (3, (.int .i64 x4))]).run prog w = .ok (.slice (some ⟨w.heap.size, 0, none⟩) 4 4) (w.alloc (.cells #[(.int .i64 x1), (.int .i64 x2), (.int .i64 x3), (.int .i64 x4)] 3 (0, 0))) := p9
theorem nq4 (x1 : Int) (x2 : Int) (x3 : Int) (x4 : Int) (x5 : Int) (x6 : Int) (w : World) : (Instr.buildSlice 24 6 #[(0, (.int .i64 x1)), (1, (.int .i64 x2)), (2, (.int .i64 x3)), (3, (.int .i64 x4)), (4, (.int .i64 x5)), (5, (.int .i64 x6))]).run prog w = .ok (.slice (some ⟨w.heap.size, 0, none⟩) 6 6) (w.alloc (.cells #[(.int .i64 x1), (.int .i64 x2), (.int .i64 x3), (.int .i64 x4), (.int .i64 x5), (.int .i64 x6)] 3 (0, 0))) := p9
theorem K0 (x1 : Int) (x2 : Int) (x3 : Int) (w : World) : (Instr.buildSlice 25 1 #[(0, (.agg #[(.int .i64 x1), (.int .i64 x2), (.int .i64 x3)]))]).run prog w = .ok (.slice (some ⟨w.heap.size, 0, none⟩) 1 1) (w.alloc (.cells #[(.int .i64 x1), (.int .i64 x2), (.int .i64 x3)] 52 (0, 0))) := p9
theorem xG (x1 : Int) (x2 : Int) (x3 : Int) (x4 : Int) (x5 : Int) (x6 : Int) (w : World) : (Instr.buildSlice 25 2 #[(0, (.agg #[(.int .i64 x1), (.int .i64 x2), (.int .i64 x3)])), (1, (.agg #[(.int .i64 x4), (.int .i64 x5), (.int .i64 x6)]))]).run prog w = .ok (.slice (some ⟨w.heap.size, 0, none⟩) 2 2) (w.alloc (.cells #[(.int .i64 x1), (.int .i64 x2), (.int .i64 x3), (.int .i64 x4), (.int .i64 x5), (.int .i64 x6)] 52 (0, 0))) := p9
theorem xF (x1 : Int) (x2 : Int) (x3 : Int) (x4 : Int) (x5 : Int) (x6 : Int) (x7 : Int) (x8 : Int) (x9 : Int) (w : World) : (Instr.buildSlice 25 3 #[(0, (.agg #[(.int .i64 x1), (.int .i64 x2), (.int .i64 x3)])), (1, (.agg #[(.int .i64 x4), (.int .i64 x5), (.int .i64 x6)])), (2, (.agg #[(.int .i64 x7), (.int .i64 x8), (.int .i64 x9)]))]).run prog w = .ok (.slice (some ⟨w.heap.size, 0, none⟩) 3 3) (w.alloc (.cells #[(.int .i64 x1), (.int .i64 x2), (.int .i64 x3), (.int .i64 x4), (.int .i64 x5), (.int .i64 x6), (.int .i64 x7), (.int .i64 x8), (.int .i64 x9)] 52 (0, 0))) := p9
theorem zK (x1 : Int) (x2 : Int) (x3 : Int) (x4 : Int) (x5 : Int) (x6 : Int) (x7 : Option Addr) (x8 : Nat) (x9 : Nat) (x10 : Option Addr) (x11 : Nat) (x12 : Nat) (x13 : Int) (x14 : Int) (x15 : Int) (x16 : Int) (x17 : Int) (x18 : Int) (x19 : Option Addr) (x20 : Nat) (x21 : Nat) (x22 : Option Addr) (x23 : Nat) (x24 : Nat) (w : World) : (Instr.buildSlice 33 2 #[(0, (.agg #[(.int .i64 x1), (.int .i64 x2), (.int .i64 x3), (.int .i64 x4), (.int .i64 x5), (.int .i64 x6), (.slice x7 x8 x9), (.slice x10 x11 x12)])), (1, (.agg #[(.int .i64 x13), (.int .i64 x14), (.int .i64 x15), (.int .i64 x16), (.int .i64 x17), (.int .i64 x18), (.slice x19 x20 x21), (.slice x22 x23 x24)]))]).run prog w = .ok (.slice (some ⟨w.heap.size, 0, none⟩) 2 2) (w.alloc (.cells #[(.int .i64 x1), (.int .i64 x2), (.int .i64 x3), (.int .i64 x4), (.int .i64 x5), (.int .i64 x6), (.slice x7 x8 x9), (.slice x10 x11 x12), (.int .i64 x13), (.int .i64 x14), (.int .i64 x15), (.int .i64 x16), (.int .i64 x17), (.int .i64 x18), (.slice x19 x20 x21), (.slice x22 x23 x24)] 27 (0, 0))) := p9
theorem lF (x1 : ByteArray) (w : World) : (Instr.buildSlice 34 1 #[(0, (.string x1))]).run prog w = .ok (.slice (some ⟨w.heap.size, 0, none⟩) 1 1) (w.alloc (.cells #[(.string x1)] 9 (0, 0))) := p9
theorem cj8 (x1 : ByteArray) (x2 : ByteArray) (w : World) : (Instr.buildSlice 34 2 #[(0, (.string x1)), (1, (.string x2))]).run prog w = .ok (.slice (some ⟨w.heap.size, 0, none⟩) 2 2) (w.alloc (.cells #[(.string x1), (.string x2)] 9 (0, 0))) := p9
theorem cj7 (x1 : ByteArray) (x2 : ByteArray) (x3 : ByteArray) (w : World) : (Instr.buildSlice 34 3 #[(0, (.string x1)), (1, (.string x2)), (2, (.string x3))]).run prog w = .ok (.slice (some ⟨w.heap.size, 0, none⟩) 3 3) (w.alloc (.cells #[(.string x1), (.string x2), (.string x3)] 9 (0, 0))) := p9
theorem nq3 (x1 : ByteArray) (x2 : ByteArray) (x3 : ByteArray) (x4 : ByteArray) (x5 : ByteArray) (x6 : ByteArray) (w : World) : (Instr.buildSlice 34 6 #[(0, (.string x1)), (1, (.string x2)), (2, (.string x3)), (3, (.string x4)), (4, (.string x5)), (5, (.string x6))]).run prog w = .ok (.slice (some ⟨w.heap.size, 0, none⟩) 6 6) (w.alloc (.cells #[(.string x1), (.string x2), (.string x3), (.string x4), (.string x5), (.string x6)] 9 (0, 0))) := p9
theorem nq2 (x1 : ByteArray) (x2 : ByteArray) (x3 : ByteArray) (x4 : ByteArray) (x5 : ByteArray) (x6 : ByteArray) (x7 : ByteArray) (x8 : ByteArray) (x9 : ByteArray) (w : World) : (Instr.buildSlice 34 9 #[(0, (.string x1)), (1, (.string x2)), (2, (.string x3)), (3, (.string x4)), (4, (.string x5)), (5, (.string x6)), (6, (.string x7)), (7, (.string x8)), (8, (.string x9))]).run prog w = .ok (.slice (some ⟨w.heap.size, 0, none⟩) 9 9) (w.alloc (.cells #[(.string x1), (.string x2), (.string x3), (.string x4), (.string x5), (.string x6), (.string x7), (.string x8), (.string x9)] 9 (0, 0))) := p9
theorem kB (x1 : Int) (w : World) : (Instr.buildSlice 39 1 #[(0, (.int .u8 x1))]).run prog w = .ok (.slice (some ⟨w.heap.size, 0, none⟩) 1 1) (w.alloc (.cells #[(.int .u8 x1)] 5 (0, 0))) := p9
theorem aq5 (x1 : Int) (x2 : Int) (x3 : Int) (x4 : Int) (x5 : Int) (x6 : Int) (w : World) : (Instr.buildSlice 55 3 #[(0, (.agg #[(.int .i64 x1), (.int .i64 x2)])), (1, (.agg #[(.int .i64 x3), (.int .i64 x4)])), (2, (.agg #[(.int .i64 x5), (.int .i64 x6)]))]).run prog w = .ok (.slice (some ⟨w.heap.size, 0, none⟩) 3 3) (w.alloc (.cells #[(.int .i64 x1), (.int .i64 x2), (.int .i64 x3), (.int .i64 x4), (.int .i64 x5), (.int .i64 x6)] 105 (0, 0))) := p9
theorem zL (x1 : ByteArray) (x2 : Int) (x3 : ByteArray) (x4 : Int) (x5 : ByteArray) (x6 : Int) (x7 : ByteArray) (x8 : Int) (w : World) : (Instr.buildSlice 58 4 #[(0, (.agg #[(.string x1), (.int .i64 x2)])), (1, (.agg #[(.string x3), (.int .i64 x4)])), (2, (.agg #[(.string x5), (.int .i64 x6)])), (3, (.agg #[(.string x7), (.int .i64 x8)]))]).run prog w = .ok (.slice (some ⟨w.heap.size, 0, none⟩) 4 4) (w.alloc (.cells #[(.string x1), (.int .i64 x2), (.string x3), (.int .i64 x4), (.string x5), (.int .i64 x6), (.string x7), (.int .i64 x8)] 119 (0, 0))) := p9
theorem aq4 (x1 : ByteArray) (x2 : Int) (x3 : Int) (x4 : Option Addr) (x5 : Nat) (x6 : Nat) (x7 : ByteArray) (x8 : Int) (x9 : Int) (x10 : Option Addr) (x11 : Nat) (x12 : Nat) (x13 : ByteArray) (x14 : Int) (x15 : Int) (x16 : Option Addr) (x17 : Nat) (x18 : Nat) (x19 : ByteArray) (x20 : Int) (x21 : Int) (x22 : Option Addr) (x23 : Nat) (x24 : Nat) (x25 : ByteArray) (x26 : Int) (x27 : Int) (x28 : Option Addr) (x29 : Nat) (x30 : Nat) (x31 : ByteArray) (x32 : Int) (x33 : Int) (x34 : Option Addr) (x35 : Nat) (x36 : Nat) (w : World) : (Instr.buildSlice 59 6 #[(0, (.agg #[(.string x1), (.int .i64 x2), (.int .i64 x3), (.slice x4 x5 x6)])), (1, (.agg #[(.string x7), (.int .i64 x8), (.int .i64 x9), (.slice x10 x11 x12)])), (2, (.agg #[(.string x13), (.int .i64 x14), (.int .i64 x15), (.slice x16 x17 x18)])), (3, (.agg #[(.string x19), (.int .i64 x20), (.int .i64 x21), (.slice x22 x23 x24)])), (4, (.agg #[(.string x25), (.int .i64 x26), (.int .i64 x27), (.slice x28 x29 x30)])), (5, (.agg #[(.string x31), (.int .i64 x32), (.int .i64 x33), (.slice x34 x35 x36)]))]).run prog w = .ok (.slice (some ⟨w.heap.size, 0, none⟩) 6 6) (w.alloc (.cells #[(.string x1), (.int .i64 x2), (.int .i64 x3), (.slice x4 x5 x6), (.string x7), (.int .i64 x8), (.int .i64 x9), (.slice x10 x11 x12), (.string x13), (.int .i64 x14), (.int .i64 x15), (.slice x16 x17 x18), (.string x19), (.int .i64 x20), (.int .i64 x21), (.slice x22 x23 x24), (.string x25), (.int .i64 x26), (.int .i64 x27), (.slice x28 x29 x30), (.string x31), (.int .i64 x32), (.int .i64 x33), (.slice x34 x35 x36)] 114 (0, 0))) := p9
theorem zJ (x1 : Option Addr) (x2 : Nat) (x3 : Nat) (x4 : Int) (x5 : Int) (w : World) : (Instr.buildSlice 101 1 #[(0, (.agg #[(.slice x1 x2 x3), (.int .i64 x4), (.int .i64 x5)]))]).run prog w = .ok (.slice (some ⟨w.heap.size, 0, none⟩) 1 1) (w.alloc (.cells #[(.slice x1 x2 x3), (.int .i64 x4), (.int .i64 x5)] 96 (0, 0))) := p9
theorem kq7 (x1 : Bool) (w : World) : (Instr.buildSlice 116 1 #[(0, (.bool x1))]).run prog w = .ok (.slice (some ⟨w.heap.size, 0, none⟩) 1 1) (w.alloc (.cells #[(.bool x1)] 4 (0, 0))) := p9
theorem rX (x1 : Int) (w : World) : (Instr.buildSlice 179 1 #[(0, (.int .u8 x1))]).run prog w = .ok (.slice (some ⟨w.heap.size, 0, none⟩) 1 1) (w.alloc (.cells #[(.int .u8 x1)] 205 (0, 0))) := p9
theorem aV (x1 : Nat) (x2 : Value) (w : World) : (Instr.buildSlice 180 1 #[(0, (.iface x1 x2))]).run prog w = .ok (.slice (some ⟨w.heap.size, 0, none⟩) 1 1) (w.alloc (.cells #[(.iface x1 x2)] 185 (0, 0))) := p9
theorem aq1 (a0 b0 : Int) (a1 b1 : Int) (a2 b2 : Int) (a3 b3 : Int) (a4 b4 : Int) (a5 b5 : Int) (w : World) : (Op.equalIn 10000 23 (.agg #[.int .i64 a0, .int .i64 a1, .int .i64 a2, .int .i64 a3, .int .i64 a4, .int .i64 a5]) (.agg #[.int .i64 b0, .int .i64 b1, .int .i64 b2, .int .i64 b3, .int .i64 b4, .int .i64 b5])).run prog w = .ok (decide ((a0, a1, a2, a3, a4, a5) = (b0, b1, b2, b3, b4, b5))) w := by
  rw [run_equalIn_agg w 9999 23 _ _ (by simp only [Program.fieldsOf, underlying23]) p9]; simp only [Program.fieldsOf, underlying23]
  by_cases h0 : a0 = b0
  rotate_left
  · simp [Op.eqFields, part, isAgg, run_equalIn_int _ 9998 3 .i64 .i64 _ _ underlying3, run_underlying underlying3, h0]
  by_cases h1 : a1 = b1
  rotate_left
  · simp [Op.eqFields, part, isAgg, run_equalIn_int _ 9998 3 .i64 .i64 _ _ underlying3, run_underlying underlying3, h0, h1]
  by_cases h2 : a2 = b2
  rotate_left
  · simp [Op.eqFields, part, isAgg, run_equalIn_int _ 9998 3 .i64 .i64 _ _ underlying3, run_underlying underlying3, h0, h1, h2]
  by_cases h3 : a3 = b3
  rotate_left
  · simp [Op.eqFields, part, isAgg, run_equalIn_int _ 9998 3 .i64 .i64 _ _ underlying3, run_underlying underlying3, h0, h1, h2, h3]
  by_cases h4 : a4 = b4
  rotate_left
  · simp [Op.eqFields, part, isAgg, run_equalIn_int _ 9998 3 .i64 .i64 _ _ underlying3, run_underlying underlying3, h0, h1, h2, h3, h4]
  by_cases h5 : a5 = b5
  rotate_left
  · simp [Op.eqFields, part, isAgg, run_equalIn_int _ 9998 3 .i64 .i64 _ _ underlying3, run_underlying underlying3, h0, h1, h2, h3, h4, h5]
  simp [Op.eqFields, part, isAgg, run_equalIn_int _ 9998 3 .i64 .i64 _ _ underlying3, run_underlying underlying3, h0, h1, h2, h3, h4, h5]
theorem aj9 (a0 b0 : Int) (a1 b1 : Int) (a2 b2 : Int) (a3 b3 : Int) (a4 b4 : Int) (a5 b5 : Int) (w : World) : (binOp .neq 23 (.agg #[.int .i64 a0, .int .i64 a1, .int .i64 a2, .int .i64 a3, .int .i64 a4, .int .i64 a5]) (.agg #[.int .i64 b0, .int .i64 b1, .int .i64 b2, .int .i64 b3, .int .i64 b4, .int .i64 b5])).run prog w = .ok (.bool (decide (¬ (a0, a1, a2, a3, a4, a5) = (b0, b1, b2, b3, b4, b5)))) w := by rw [run_neq_struct, aq1, decide_not]; rfl
theorem aq2 (op : BinOp) (x y : Operand) (xs ys : Array Value) (w : World) : (eqGuard op 23 x y (.agg xs) (.agg ys)).run prog w = .ok () w := run_eqGuard_agg w op 23 x y xs ys p9
theorem cj3 (a0 b0 : Int) (a1 b1 : Int) (a2 b2 : Int) (w : World) : (Op.equalIn 10000 52 (.agg #[.int .i64 a0, .int .i64 a1, .int .i64 a2]) (.agg #[.int .i64 b0, .int .i64 b1, .int .i64 b2])).run prog w = .ok (decide ((a0, a1, a2) = (b0, b1, b2))) w := by
  rw [run_equalIn_agg w 9999 52 _ _ (by simp only [Program.fieldsOf, underlying52]) p9]; simp only [Program.fieldsOf, underlying52]
  by_cases h0 : a0 = b0 <;> by_cases h1 : a1 = b1 <;> by_cases h2 : a2 = b2 <;>
    simp [Op.eqFields, part, isAgg, run_equalIn_int _ 9998 3 .i64 .i64 _ _ underlying3, run_underlying underlying3, h0, h1, h2]
theorem cj0 (a0 b0 : Int) (a1 b1 : Int) (a2 b2 : Int) (w : World) : (binOp .neq 52 (.agg #[.int .i64 a0, .int .i64 a1, .int .i64 a2]) (.agg #[.int .i64 b0, .int .i64 b1, .int .i64 b2])).run prog w = .ok (.bool (decide (¬ (a0, a1, a2) = (b0, b1, b2)))) w := by rw [run_neq_struct, cj3, decide_not]; rfl
theorem cj4 (op : BinOp) (x y : Operand) (xs ys : Array Value) (w : World) : (eqGuard op 52 x y (.agg xs) (.agg ys)).run prog w = .ok () w := run_eqGuard_agg w op 52 x y xs ys p9
end T
end Go.Proofs.YtcdopfjiadifhaaGreatDoor
end
section
namespace Go.W
universe u
open Go Go.RowKit
class El (α : Type) extends Inhabited α where
  cells : α → List Value
  sz : Nat
  len : ∀ a, (cells a).length = sz
  one : ∀ a, ∀ u ∈ cells a, u.oneCell' = true
def rows {α : Type} [El α] (l : List α) : List Value := l.flatMap El.cells
instance : El Str where
  default := []
  cells s := [str s]
  sz := 1
  len _ := rfl
  one a u h := by simp at h; subst h; rfl
instance : El Int where
  default := 0
  cells n := [int n]
  sz := 1
  len _ := rfl
  one a u h := by simp at h; subst h; rfl
instance : El UInt8 where
  default := 0
  cells n := [.int .u8 n.toNat]
  sz := 1
  len _ := rfl
  one a u h := by simp at h; subst h; rfl
abbrev Mk := Int × Int × Str
instance : El Mk where
  default := (0, 0, [])
  cells m := [int m.1, int m.2.1, str m.2.2]
  sz := 3
  len _ := rfl
  one a u h := by simp at h; rcases h with h | h | h <;> subst h <;> rfl
structure Sl (α : Type) where
  a : Option Addr
  c : Nat
  l : List α
instance {α : Type} : El (Sl α) where
  default := ⟨none, 0, []⟩
  cells p := [.slice p.a p.l.length p.c]
  sz := 1
  len _ := rfl
  one a u h := by simp at h; subst h; rfl
section
variable {α : Type} [El α]
theorem xR : rows ([] : List α) = [] := rfl
theorem V0 (a : α) (l : List α) : rows (a :: l) = El.cells a ++ rows l := rfl
theorem C9 (l l' : List α) : rows (l ++ l') = rows l ++ rows l' := by simp [rows]
theorem Z7 (l : List α) : (rows l).length = l.length * El.sz α := by
  induction l with
  | nil => simp [xR]
  | cons a l ih => rw [V0, List.length_append, El.len, ih, List.length_cons, Nat.add_mul, Nat.one_mul, Nat.add_comm]
theorem M1 (l : List α) : ∀ u ∈ rows l, u.oneCell' = true := by
  intro u hu; obtain ⟨a, _, h⟩ := List.mem_flatMap.1 hu; exact El.one a u h
theorem gx2 (l : List α) (k : Nat) : (rows l).drop (k * El.sz α) = rows (l.drop k) := by
  induction l generalizing k with
  | nil => simp [xR]
  | cons a l ih =>
    cases k with
    | zero => simp
    | succ k =>
      rw [V0, List.drop_succ_cons, ← ih, List.drop_append, El.len, List.drop_eq_nil_of_le (by rw [El.len, Nat.succ_mul]; omega), List.nil_append]
      congr 1
      rw [Nat.succ_mul]
      omega
theorem rows_get' (l : List α) (i j : Nat) (hi : i < l.length) (hj : j < El.sz α) : (rows l)[i * El.sz α + j]? = (El.cells (l.getD i default))[j]? := by
  have h := congrArg (·[j]?) (gx2 l i); simp only [List.getElem?_drop] at h; rw [h, List.drop_eq_getElem_cons hi, V0, List.getElem?_append_left (by rw [El.len]; exact hj)]
  simp [List.getD_eq_getElem?_getD, hi]
theorem rows_get {l : List α} {i j : Nat} {v : Value} (hi : i < l.length) (hv : (El.cells (l.getD i default))[j]? = some v) : (rows l)[i * El.sz α + j]? = some v := by
  have hj : j < El.sz α := by
    have := (List.getElem?_eq_some_iff.1 hv).1
    rwa [El.len] at this
  rw [rows_get' l i j hi hj, hv]
theorem j9 {l : List α} {i : Nat} {v : Value} (hi : i < l.length) (hv : (El.cells (l.getD i default))[0]? = some v) : (rows l)[i * El.sz α]? = some v := rows_get (j := 0) hi hv
theorem K2 {l : List α} {i : Nat} (hi : i < l.length) : ∀ j u, (El.cells (l.getD i default))[j]? = some u → (rows l)[i * El.sz α + j]? = some u := fun j u h => rows_get hi h
theorem rows_lt {l : List α} {i : Nat} (hi : i < l.length) (h0 : 0 < El.sz α) : i * El.sz α < (rows l).length := by
  rw [Z7]; exact Nat.mul_lt_mul_of_pos_right hi h0
theorem mq8 (l : List α) (k : Nat) : (rows l).take (k * El.sz α) = rows (l.take k) := by
  induction l generalizing k with
  | nil => simp [xR]
  | cons a l ih =>
    cases k with
    | zero => simp [xR]
    | succ k =>
      rw [V0, List.take_succ_cons, V0, ← ih, Nat.succ_mul, List.take_append, El.len, List.take_of_length_le (by rw [El.len]; omega)]
      congr 2
      omega
end
theorem aH {c : Cx} {Q : Exit → Act → World → Prop} {fr : Fr} {hp : Hp} {L : List Fact} {ops : Array Oper} {rest : List Oper} {d : Tmp} {ty : TypeId} {pos : String} {af : Array Edge}
    {s t : TypeId} {x : Operand} {ks k k' : IntKind} {a : Int} (z : Int) (hd : Nat.blt d c.n = true) (hs : c.P.underlying s = some (.int ks)) (ht : c.P.underlying t = some (.int k')) (hx : ev fr x = some (.int k a)) (hz : k'.wrap a = z)
    (kk : HL c ops Q rest ((d, .int k' z) :: fr) hp L) : HL c ops Q (⟨some d, .convert s t x, ty, pos, af, none⟩ :: rest) fr hp L :=
  G3 _ rfl rfl hd (fun a' w ha _ => by
    simp only [execOp, ha.ev hx, Sem.run_bind, convert, run_underlying hs, run_underlying ht, Result.andThen_ok]; rw [← hz]
    cases ks <;> rfl) kk
theorem vx9 {c : Cx} {Q : Exit → Act → World → Prop} {fr : Fr} {hp : Hp} {L : List Fact} {ops : Array Oper} {rest : List Oper} {d : Tmp} {ty : TypeId} {pos : String} {af : Array Edge}
    {t yt : TypeId} {x y : Operand} {kd : IntKind} {a b : Int} (hd : Nat.blt d c.n = true) (hx : ev fr x = some (.int kd a)) (hy : ev fr y = some (.int kd b)) (hb : b ≠ 0)
    (kk : HL c ops Q rest ((d, .int kd (a.tmod b)) :: fr) hp L) : HL c ops Q (⟨some d, .binOp .rem t x y yt, ty, pos, af, none⟩ :: rest) fr hp L :=
  q8 _ hd hx hy (fun _ => rfl) (fun w => by
    have : (binOp .rem t (.int kd a) (.int kd b)) = Op.intDiv .rem kd a b := by cases kd <;> rfl
    rw [this]
    simp [Op.intDiv, hb]) kk
theorem r_quo {c : Cx} {Q : Exit → Act → World → Prop} {fr : Fr} {hp : Hp} {L : List Fact} {ops : Array Oper} {rest : List Oper} {d : Tmp} {ty : TypeId} {pos : String} {af : Array Edge}
    {t yt : TypeId} {x y : Operand} {kd : IntKind} {a b : Int} (z : Int) (hd : Nat.blt d c.n = true) (hx : ev fr x = some (.int kd a)) (hy : ev fr y = some (.int kd b)) (hb : b ≠ 0) (hz : kd.wrap (a.tdiv b) = z)
    (kk : HL c ops Q rest ((d, .int kd z) :: fr) hp L) : HL c ops Q (⟨some d, .binOp .quo t x y yt, ty, pos, af, none⟩ :: rest) fr hp L :=
  q8 _ hd hx hy (fun _ => rfl) (fun w => by
    have : (binOp .quo t (.int kd a) (.int kd b)) = Op.intDiv .quo kd a b := by cases kd <;> rfl
    rw [this]
    simp [Op.intDiv, hb, hz]) kk
theorem wrapU (n : Int) : 0 ≤ IntKind.u64.wrap n ∧ IntKind.u64.wrap n < 18446744073709551616 := by
  simp only [IntKind.wrap, IntKind.bits, IntKind.signed]
  simp
  omega
theorem r8 {α : Type} [El α] {c : Cx} {Q : Exit → Act → World → Prop} {fr : Fr} {hp : Hp} {L : List Fact} {ops : Array Oper} {rest : List Oper} {d : Tmp} {ty : TypeId} {pos : String} {af : Array Edge}
    {t e : TypeId} {x i : Operand} {A : Option Addr} {n cp : Nat} {kd : IntKind} {z : Int} (l : List α) (j : Nat) (hd : Nat.blt d c.n = true) (ht : c.P.underlying t = some (.slice e)) (hz : Sz c.P e (El.sz α))
    (hx : ev fr x = some (.slice A n cp)) (hi : ev fr i = some (.int kd z)) (hjz : z = (j : Int)) (hr : Row A (rows l) ∈ L) (hn : n = l.length) (hj : j < l.length) (h0 : 0 < El.sz α)
    (k : HL c ops Q rest ((d, .pointer (some ((adr A).add (j * El.sz α)))) :: fr) hp L) : HL c ops Q (⟨some d, .indexAddr t x i, ty, pos, af, none⟩ :: rest) fr hp L :=
  qj3 j hd ht hz hx hi hjz (by omega) hr (rows_lt hj h0) k
def Rows2 {α : Type} [El α] (A : Option Addr) (ps : List (Sl α)) : Fact where
  P w := (Row A (rows ps)).P w ∧ ∀ p ∈ ps, (Row p.a (rows p.l)).P w
  fp k := (Row A (rows ps)).fp k ∨ ∃ p ∈ ps, (Row p.a (rows p.l)).fp k
  st w w' h hP := ⟨(Row A (rows ps)).st w w' (fun k hk => h k (.inl hk)) hP.1, fun p hp => (Row p.a (rows p.l)).st w w' (fun k hk => h k (.inr ⟨p, hp, hk⟩)) (hP.2 p hp)⟩
  lt w hP k hk := by
    rcases hk with hk | ⟨p, hp, hk⟩
    · exact (Row A (rows ps)).lt w hP.1 k hk
    exact (Row p.a (rows p.l)).lt w (hP.2 p hp) k hk
section
variable {c : Cx} {Q : Exit → Act → World → Prop} {fr : Fr} {hp : Hp} {L : List Fact} {ops : Array Oper} {rest : List Oper}
variable {d : Tmp} {ty : TypeId} {pos : String} {af : Array Edge}
theorem p_t {x y z : Operand} {v : Value} {b : Bool} (hd : Nat.blt d c.n = true) (hx : ev fr x = some (.bool b)) (hb : b = true) (hy : ev fr y = some v) (k : HL c ops Q rest ((d, v) :: fr) hp L) : HL c ops Q (⟨some d, .pick x y z, ty, pos, af, none⟩ :: rest) fr hp L := by
  subst hb; exact vz2 hd hx hy k
theorem p_f {x y z : Operand} {v : Value} {b : Bool} (hd : Nat.blt d c.n = true) (hx : ev fr x = some (.bool b)) (hb : b = false) (hz : ev fr z = some v) (k : HL c ops Q rest ((d, v) :: fr) hp L) : HL c ops Q (⟨some d, .pick x y z, ty, pos, af, none⟩ :: rest) fr hp L := by
  subst hb; exact vz3 hd hx hz k
theorem c_t {x : Operand} {b : Bool} {thn els : Code} (hx : ev fr x = some (.bool b)) (hb : b = true) (ht : HC c thn Q fr hp L) : HC c (.cond x thn els) Q fr hp L := by subst hb; exact uj9 hx ht
theorem c_f {x : Operand} {b : Bool} {thn els : Code} (hx : ev fr x = some (.bool b)) (hb : b = false) (hf : HC c els Q fr hp L) : HC c (.cond x thn els) Q fr hp L := by subst hb; exact uq0 hx hf
theorem bt1 {b : Bool} (h : (b == true) = true) : b = true := by cases b <;> simp_all
theorem bt2 {b : Bool} (h : (b == false) = false) : b = true := by cases b <;> simp_all
theorem bf1 {b : Bool} (h : (b == false) = true) : b = false := by cases b <;> simp_all
theorem bf2 {b : Bool} (h : (b == true) = false) : b = false := by cases b <;> simp_all
theorem gy {b : Bool} (h : (b == true) = false) : (b == false) = true := by cases b <;> simp_all
theorem gn {b : Bool} (h : (b == true) = true) : (b == false) = false := by cases b <;> simp_all
theorem M4 {o : Oper} {j : Nat} {want : Bool} {t : Tmp} {v : Value} (ho : o.dst = some d) (hg : o.guard = some (j, want)) (hd : Nat.blt d c.n = true) (hj : (ops[j]?).bind (·.dst) = some t) (hv : lk fr t = some v) (hu : v = undef)
    (k : HL c ops Q rest ((d, undef) :: fr) hp L) : HL c ops Q (o :: rest) fr hp L := by
  subst hu; intro a w ha hw; refine px2 ?_ ?_
  · rw [Region.wanted, hg]
    show (yielded ops a.tmps j == some want) = false; have h1 := ha.at_ t _ hv
    have : yielded ops a.tmps j = none := by
      unfold yielded; rw [hj]; simp only [Option.bind_some]
      cases h2 : a.tmps[t]? with
      | none => rfl
      | some u => simp [Array.getD_eq_getD_getElem?, h2, undef] at h1; rw [h1]
    rw [this]; rfl
  rw [ho]; exact k _ _ (ha.put (by simpa using hd) _) hw
theorem t7 {dst : Option Tmp} {op : Op} {j : Nat} {want b : Bool} {t : Tmp} (hj : (ops[j]?).bind (·.dst) = some t) (hv : lk fr t = some (.bool b))
    (hy : (b == want) = true → HL c ops Q (⟨dst, op, ty, pos, af, some (j, want)⟩ :: rest) fr hp L) (hn : (b == want) = false → HL c ops Q (⟨dst, op, ty, pos, af, some (j, want)⟩ :: rest) fr hp L) :
    HL c ops Q (⟨dst, op, ty, pos, af, some (j, want)⟩ :: rest) fr hp L := by
  cases hb : (b == want)
  · exact hn hb
  exact hy hb
theorem qx0 {DP : Nat → List PanicEntry → Prop} {O0 : Hp} {K : Env → Prop} {r : List Oper} {E : Env} {want b : Bool} {t : Tmp} (hv : lkE E t = some (.ex (.bool b))) (hy : (b == want) = true → HB DP c ops fr O0 hp L K r E) (hn : (b == want) = false → HB DP c ops fr O0 hp L K r E) : HB DP c ops fr O0 hp L K r E := by
  cases hb : (b == want)
  · exact hn hb
  exact hy hb
theorem m6 {x : Operand} {p : Prop} [Decidable p] {thn els : Code} (hx : ev fr x = some (.bool (decide p))) (ht : p → HC c thn Q fr hp L) (hf : ¬ p → HC c els Q fr hp L) : HC c (.cond x thn els) Q fr hp L :=
  D0 hx (fun h => ht (of_decide_eq_true h)) (fun h => hf (of_decide_eq_false h))
end
theorem m0 {α : Type u} {a  : α} {l : List α} : a ∈ a :: l := .head _
theorem m1 {α : Type u} {a x0 : α} {l : List α} : a ∈ x0 :: a :: l := .tail _ (.head _)
theorem m2 {α : Type u} {a x0 x1 : α} {l : List α} : a ∈ x0 :: x1 :: a :: l := .tail _ (.tail _ (.head _))
theorem perm3 {α : Type} (a b c : α) (l : List α) : (a :: b :: c :: l).Perm (c :: a :: b :: l) := by
  have h1 : (a :: b :: c :: l).Perm (a :: c :: b :: l) := (List.Perm.swap c b l).cons a; exact h1.trans (.swap c a _)
theorem perm2 {α : Type} (a b : α) (l : List α) : (a :: b :: l).Perm (b :: a :: l) := .swap b a l
theorem perm4 {α : Type} (a b c d : α) (l : List α) : (a :: b :: c :: d :: l).Perm (d :: a :: b :: c :: l) := ((perm3 b c d l).cons a).trans (.swap d a _)
end Go.W
end
namespace Go.W
theorem gP {l l' : Hp} (h : List.Perm l l' := by first | exact .refl _ | exact perm2 _ _ _ | exact perm3 _ _ _ _ | exact perm4 _ _ _ _ _) : List.Perm l l' := h
theorem lx1 {b : Bool} (h : b = true := by first | rfl | assumption | exact bt1 (by assumption) | exact bt2 (by assumption)) : b = true := h
theorem lx3 {b : Bool} (h : b = false := by first | rfl | assumption | exact bf1 (by assumption) | exact bf2 (by assumption)) : b = false := h
theorem ret_u {k : Con Unit} {c : Cx} {fr : Fr} {hp : Hp} {L : List Fact} {fn : Func} {w0 : World} {t : Tmp} (hres : fn.results = #[.tmp t] := by exact rfl) (hv : lk fr t = some (k.val ()) := by exact rfl) (hb : c.b = k.entry w0 := by exact rfl) (hi : k.inv () := by exact trivial) (hh : (k.hpO ()).Sublist hp := by exact nK) (hL : LSub L (k.LO ()) := by exact trivial) (hD : c.D = [] := by exact rfl) : HQ c (postB c.P fn (k.post w0)) .ret fr hp L := ret1 () hres hv hb hi hh hL hD
end Go.W
section
namespace Go.W
open Go Go.RowKit
section
variable {c : Cx} {Q : Exit → Act → World → Prop} {fr : Fr} {hp : Hp} {L : List Fact} {ops : Array Oper} {rest : List Oper}
variable {d : Tmp} {ty : TypeId} {pos : String} {af : Array Edge}
theorem wj3 {g : Nat} {cs : Array Value} {t : TypeId} {fz : Nat × Nat} {w : World} (h : w.heap[g]? = some (.cells cs t fz)) {us : List Value} (hu : us <+: cs.toList) : (Row (d6 g) us).P w := fun j u hj => by
  refine ⟨_, rfl, ?_⟩; rw [bI, Nat.zero_add]; obtain ⟨r, hr⟩ := hu
  have : cs[j]? = some u := by
    rw [← Array.getElem?_toList, ← hr, List.getElem?_append]; have hlt : j < us.length := (List.getElem?_eq_some_iff.1 hj).1; rw [if_pos hlt, hj]
  simp [World.cell?, h, this]
theorem ax2 (s : Str) : rows s = s.map (fun b => Value.int .u8 b.toNat) := by
  induction s with
  | nil => rfl
  | cons a s ih => rw [V0, ih]; rfl
theorem r_bytes {s t e : TypeId} {x : Operand} {l : Str} (hd : Nat.blt d c.n = true) (hs : c.P.underlying s = some .string) (ht : c.P.underlying t = some (.slice e)) (he : c.P.underlying e = some (.int .u8)) (hx : ev fr x = some (str l))
    (k : ∀ g cap, HL c ops Q rest ((d, .slice (d6 g) l.length cap) :: fr) hp (Row (d6 g) (rows l) :: L)) : HL c ops Q (⟨some d, .convert s t x, ty, pos, af, none⟩ :: rest) fr hp L :=
  uI rfl rfl hd fun a w ha hw => by
    have h1 := run_bytes_of_string (P := c.P) w s t e (.mk l.toArray) hs ht he; refine ⟨_, (w.drew.alloc (.cells (bytesRow (.mk l.toArray) (grownCap w (ByteArray.mk l.toArray).size 0 e)) e ((bytesRow (.mk l.toArray) (grownCap w (ByteArray.mk l.toArray).size 0 e)).size, (bytesRow (.mk l.toArray) (grownCap w (ByteArray.mk l.toArray).size 0 e)).size + 1))), hp, _, ?_, ?_, k w.heap.size (grownCap w (ByteArray.mk l.toArray).size 0 e)⟩
    · simp only [execOp, ha.ev hx, str, Sem.run_bind, h1, Result.andThen_ok, Sem.run_pure]
      rfl
    have h2 := (hw.quiet (lq2 w)).alloc (.cells (bytesRow (.mk l.toArray) (grownCap w (ByteArray.mk l.toArray).size 0 e)) e ((bytesRow (.mk l.toArray) (grownCap w (ByteArray.mk l.toArray).size 0 e)).size, (bytesRow (.mk l.toArray) (grownCap w (ByteArray.mk l.toArray).size 0 e)).size + 1)); refine WI.letgo h2 (wj3 (h2.own (w.heap.size, _) (.head _)) ?_) (fun k hk => by obtain ⟨ad, e', h3, _⟩ := hk; cases e'; exact h3.symm); rw [ax2, bytesRow]
    simp
theorem B8 {t e : TypeId} {x : Operand} {g : Nat} {cs : Array Value} {fz : Nat × Nat} {n : Nat} (hd : Nat.blt d c.n = true) (ht' : IsR c.P t) (hz' : Sz c.P t n) (hx : ev fr x = some (.pointer (d6 g))) (h : (g, Obj.cells cs e fz) ∈ hp) (hn : cs.size = n)
    (k : HL c ops Q rest ((d, .agg cs) :: fr) hp L) : HL c ops Q (⟨some d, .load t x, ty, pos, af, none⟩ :: rest) fr hp L :=
  I0 (cs := cs.toList) hd ht' hz' hx (by simpa using hn) (dV h (fun i u hu => by simpa using hu)) k
end
end Go.W
end
