/- Texts. -/
import Derived.Test.YtpihanmcnmlodaaGreatDoorProg
import Derived.KernelRfl
import Derived.Laws.StructEq
import Derived.Laws.IdiomStrings
import Derived.MapKept
import Derived.Laws.Rows
import Derived.Deep.AppendSrc
import Derived.Deep.Upon
import Derived.Test.YtpihanmcnmlodaaGreatDoorAAc
set_option linter.unusedVariables false
set_option linter.unusedSimpArgs false
section
namespace Go.Proofs.YtpihanmcnmlodaaGreatDoor
open Go Go.W Tryz
theorem mixed : prog.follows .mixedOrders = true := u3
namespace F
abbrev V8 : Nat := 3
theorem dB : prog.funcs[V8]? = some f3 := func3
abbrev bj3 : Nat := 4
abbrev Y5 : Nat := 5
theorem mT : prog.funcs[Y5]? = some f5 := func5
theorem kY : Callable prog Y5 := y3 func5
abbrev Y6 : Nat := 6
theorem mU : prog.funcs[Y6]? = some f6 := func6
theorem kZ : Callable prog Y6 := y3 func6
abbrev aX : Nat := 7
theorem pN : prog.funcs[aX]? = some f7 := func7
theorem R9 : Callable prog aX := y3 func7
abbrev cJ : Nat := 8
theorem rF : prog.funcs[cJ]? = some f8 := func8
theorem cY : Callable prog cJ := y3 func8
abbrev I4 : Nat := 9
theorem bN : prog.funcs[I4]? = some f9 := func9
theorem aL : Callable prog I4 := y3 func9
abbrev U0 : Nat := 10
theorem pI : prog.funcs[U0]? = some f10 := func10
theorem R8 : Callable prog U0 := y3 func10
abbrev aS : Nat := 11
theorem pJ : prog.funcs[aS]? = some f11 := func11
theorem bV : Callable prog aS := y3 func11
abbrev Y0 : Nat := 12
theorem mM : prog.funcs[Y0]? = some f12 := func12
theorem kR : Callable prog Y0 := y3 func12
abbrev aV : Nat := 13
theorem pL : prog.funcs[aV]? = some f13 := func13
theorem mR : Callable prog aV := y3 func13
abbrev S9 : Nat := 14
theorem pH : prog.funcs[S9]? = some f14 := func14
theorem R7 : Callable prog S9 := y3 func14
abbrev bz1 : Nat := 15
abbrev bz2 : Nat := 16
abbrev dx3 : Nat := 17
abbrev S3 : Nat := 18
theorem iZ : prog.funcs[S3]? = some f18 := func18
theorem gZ : Callable prog S3 := y3 func18
abbrev gx2 : Nat := 19
abbrev bx5 : Nat := 20
abbrev yP : Nat := 21
abbrev dx4 : Nat := 22
abbrev gz4 : Nat := 23
abbrev gz1 : Nat := 24
abbrev gq9 : Nat := 25
abbrev Y8 : Nat := 26
theorem mX : prog.funcs[Y8]? = some f26 := func26
theorem B0 : Callable prog Y8 := y3 func26
abbrev S2 : Nat := 27
theorem iY : prog.funcs[S2]? = some f27 := func27
theorem M2 : Callable prog S2 := y3 func27
abbrev S1 : Nat := 28
theorem iX : prog.funcs[S1]? = some f28 := func28
theorem W0 : Callable prog S1 := y3 func28
abbrev cR : Nat := 29
theorem rH : prog.funcs[cR]? = some f29 := func29
theorem dA : Callable prog cR := y3 func29
abbrev dV : Nat := 30
theorem rV : prog.funcs[dV]? = some f30 := func30
theorem rI : Callable prog dV := y3 func30
abbrev aY : Nat := 31
theorem pO : prog.funcs[aY]? = some f31 := func31
theorem mW : Callable prog aY := y3 func31
abbrev Y7 : Nat := 32
theorem mV : prog.funcs[Y7]? = some f32 := func32
theorem lA : Callable prog Y7 := y3 func32
abbrev Y1 : Nat := 33
theorem mN : prog.funcs[Y1]? = some f33 := func33
theorem D2 : Callable prog Y1 := y3 func33
abbrev aP : Nat := 34
theorem pG : prog.funcs[aP]? = some f34 := func34
theorem bS : Callable prog aP := y3 func34
abbrev R6 : Nat := 35
theorem iR : prog.funcs[R6]? = some f35 := func35
theorem V9 : Callable prog R6 := y3 func35
abbrev X9 : Nat := 36
theorem mL : prog.funcs[X9]? = some f36 := func36
theorem kQ : Callable prog X9 := y3 func36
abbrev X6 : Nat := 37
theorem mH : prog.funcs[X6]? = some f37 := func37
theorem kK : Callable prog X6 := y3 func37
abbrev Y3 : Nat := 38
theorem mQ : prog.funcs[Y3]? = some f38 := func38
theorem aB : Callable prog Y3 := y3 func38
abbrev N4 : Nat := 39
theorem kW : prog.funcs[N4]? = some f39 := func39
theorem iV : Callable prog N4 := y3 func39
abbrev D8 : Nat := 40
theorem U9 : prog.funcs[D8]? = some f40 := func40
theorem R5 : Callable prog D8 := y3 func40
abbrev I1 : Nat := 41
theorem kU : prog.funcs[I1]? = some f41 := func41
theorem Y4 : Callable prog I1 := y3 func41
abbrev P5 : Nat := 42
theorem gX : prog.funcs[P5]? = some f42 := func42
theorem dU : Callable prog P5 := y3 func42
abbrev B3 : Nat := 43
theorem kT : prog.funcs[B3]? = some f43 := func43
theorem iS : Callable prog B3 := y3 func43
abbrev M0 : Nat := 44
theorem dD : prog.funcs[M0]? = some f44 := func44
theorem P4 : Callable prog M0 := y3 func44
abbrev Y2 : Nat := 45
theorem mO : prog.funcs[Y2]? = some f45 := func45
theorem kS : Callable prog Y2 := y3 func45
abbrev G8 : Nat := 46
theorem Z5 : prog.funcs[G8]? = some f46 := func46
theorem K1 : Callable prog G8 := y3 func46
abbrev N2 : Nat := 47
theorem kL : prog.funcs[N2]? = some f47 := func47
theorem iM : Callable prog N2 := y3 func47
abbrev aj2 : Nat := 48
abbrev gz3 : Nat := 49
abbrev gx1 : Nat := 50
abbrev bz0 : Nat := 51
abbrev bz3 : Nat := 52
abbrev dx0 : Nat := 53
abbrev bz5 : Nat := 54
abbrev bz7 : Nat := 55
abbrev aZ : Nat := 56
theorem pP : prog.funcs[aZ]? = some f56 := func56
theorem K9 : Callable prog aZ := y3 func56
abbrev N7 : Nat := 57
theorem dW : prog.funcs[N7]? = some f57 := func57
theorem y9 : Callable prog N7 := y3 func57
abbrev H7 : Nat := 58
theorem aM : prog.funcs[H7]? = some f58 := func58
theorem Z6 : Callable prog H7 := y3 func58
abbrev bz4 : Nat := 59
abbrev yU : Nat := 60
abbrev pX : Nat := 61
abbrev bz6 : Nat := 62
abbrev pQ : Nat := 63
abbrev gx7 : Nat := 64
abbrev vU : Nat := 65
abbrev hj1 : Nat := 66
abbrev bj7 : Nat := 67
abbrev gq8 : Nat := 68
abbrev gx8 : Nat := 69
abbrev wE : Nat := 70
abbrev dq8 : Nat := 71
abbrev V4 : Nat := 72
theorem lB : prog.funcs[V4]? = some f72 := func72
theorem iW : Callable prog V4 := y3 func72
abbrev C4 : Nat := 73
theorem P9 : prog.funcs[C4]? = some f73 := func73
theorem P3 : Callable prog C4 := y3 func73
abbrev K4 : Nat := 74
theorem mS : prog.funcs[K4]? = some f74 := func74
theorem kX : Callable prog K4 := y3 func74
abbrev aW : Nat := 75
theorem pM : prog.funcs[aW]? = some f75 := func75
theorem bW : Callable prog aW := y3 func75
abbrev iT : Nat := 76
theorem uC : prog.funcs[iT]? = some f76 := func76
theorem aU : Callable prog iT := y3 func76
abbrev N6 : Nat := 77
theorem dT : prog.funcs[N6]? = some f77 := func77
theorem Q4 : Callable prog N6 := y3 func77
abbrev N3 : Nat := 78
theorem kN : prog.funcs[N3]? = some f78 := func78
theorem H8 : Callable prog N3 := y3 func78
abbrev K2 : Nat := 79
theorem cP : prog.funcs[K2]? = some f79 := func79
theorem G9 : Callable prog K2 := y3 func79
abbrev X7 : Nat := 80
theorem mJ : prog.funcs[X7]? = some f80 := func80
theorem kM : Callable prog X7 := y3 func80
abbrev w9 : Nat := 81
theorem bU : prog.funcs[w9]? = some f81 := func81
theorem aR : Callable prog w9 := y3 func81
abbrev M1 : Nat := 82
theorem dE : prog.funcs[M1]? = some f82 := func82
theorem cO : Callable prog M1 := y3 func82
abbrev V2 : Nat := 83
theorem kP : prog.funcs[V2]? = some f83 := func83
theorem iQ : Callable prog V2 := y3 func83
abbrev V3 : Nat := 84
theorem kV : prog.funcs[V3]? = some f84 := func84
theorem iU : Callable prog V3 := y3 func84
abbrev P6 : Nat := 85
theorem gY : prog.funcs[P6]? = some f85 := func85
theorem V0 : Callable prog P6 := y3 func85
abbrev cQ : Nat := 86
theorem rG : prog.funcs[cQ]? = some f86 := func86
theorem cZ : Callable prog cQ := y3 func86
abbrev H3 : Nat := 87
theorem Z7 : prog.funcs[H3]? = some f87 := func87
theorem Y9 : Callable prog H3 := y3 func87
abbrev aO : Nat := 88
theorem pF : prog.funcs[aO]? = some f88 := func88
theorem mI : Callable prog aO := y3 func88
abbrev K0 : Nat := 89
theorem cN : prog.funcs[K0]? = some f89 := func89
theorem bQ : Callable prog K0 := y3 func89
abbrev dq6 : Nat := 90
abbrev S4 : Nat := 91
theorem jA : prog.funcs[S4]? = some f91 := func91
theorem W1 : Callable prog S4 := y3 func91
abbrev dq9 : Nat := 92
abbrev rU : Nat := 93
abbrev dq7 : Nat := 94
abbrev bj2 : Nat := 95
abbrev bx6 : Nat := 96
abbrev bx8 : Nat := 97
abbrev xC : Nat := 98
abbrev zZ : Nat := 99
abbrev dx2 : Nat := 100
abbrev sN : Nat := 101
abbrev vV : Nat := 102
abbrev D7 : Nat := 103
theorem U8 : prog.funcs[D7]? = some f103 := func103
theorem R4 : Callable prog D7 := y3 func103
abbrev aT : Nat := 104
theorem pK : prog.funcs[aT]? = some f104 := func104
theorem mP : Callable prog aT := y3 func104
abbrev J8 : Nat := 105
theorem cM : prog.funcs[J8]? = some f105 := func105
theorem bP : Callable prog J8 := y3 func105
abbrev J7 : Nat := 106
theorem cK : prog.funcs[J7]? = some f106 := func106
theorem bO : Callable prog J7 := y3 func106
abbrev I5 : Nat := 107
theorem bR : prog.funcs[I5]? = some f107 := func107
theorem aN : Callable prog I5 := y3 func107
abbrev B6 : Nat := 108
theorem bT : prog.funcs[B6]? = some f108 := func108
theorem aQ : Callable prog B6 := y3 func108
abbrev N5 : Nat := 109
theorem dS : prog.funcs[N5]? = some f109 := func109
theorem Q3 : Callable prog N5 := y3 func109
abbrev O1 : Nat := 110
theorem J9 : Callable prog O1 := y3 func110
abbrev I6 : Nat := 111
theorem bX : prog.funcs[I6]? = some f111 := func111
theorem M9 : Callable prog I6 := y3 func111
abbrev X8 : Nat := 112
theorem mK : prog.funcs[X8]? = some f112 := func112
theorem kO : Callable prog X8 := y3 func112
abbrev xA : Nat := 113
abbrev yO : Nat := 114
abbrev wX : Nat := 115
abbrev uN : Nat := 116
abbrev gz2 : Nat := 117
abbrev uM : Nat := 118
abbrev wZ : Nat := 119
abbrev yN : Nat := 120
abbrev bj4 : Nat := 121
abbrev wB : Nat := 122
abbrev A3 : Nat := 123
theorem L9 : prog.funcs[A3]? = some f123 := func123
theorem K8 : Callable prog A3 := y3 func123
abbrev nP : Nat := 124
abbrev X5 : Nat := 125
theorem dC : Callable prog X5 := y3 func125
abbrev A7 : Nat := 126
theorem M8 : prog.funcs[A7]? = some f126 := func126
theorem M4 : Callable prog A7 := y3 func126
abbrev A6 : Nat := 127
theorem M7 : prog.funcs[A6]? = some f127 := func127
theorem M3 : Callable prog A6 := y3 func127
abbrev I7 : Nat := 128
theorem bY : prog.funcs[I7]? = some f128 := func128
theorem bA : Callable prog I7 := y3 func128
abbrev vY : Nat := 129
abbrev H2 : Nat := 130
theorem iP : prog.funcs[H2]? = some f130 := func130
theorem gW : Callable prog H2 := y3 func130
abbrev H1 : Nat := 131
theorem iO : prog.funcs[H1]? = some f131 := func131
theorem gV : Callable prog H1 := y3 func131
abbrev H0 : Nat := 132
theorem iN : prog.funcs[H0]? = some f132 := func132
theorem gU : Callable prog H0 := y3 func132
abbrev gq6 : Nat := 133
abbrev tZ : Nat := 134
abbrev uO : Nat := 135
abbrev sO : Nat := 136
abbrev vW : Nat := 137
abbrev uQ : Nat := 138
abbrev gx0 : Nat := 139
abbrev pW : Nat := 140
abbrev sM : Nat := 141
abbrev mF : Nat := 142
abbrev pE : Nat := 143
abbrev rQ : Nat := 144
abbrev dx1 : Nat := 145
abbrev yM : Nat := 146
abbrev M5 : Nat := 147
theorem dF : prog.funcs[M5]? = some f147 := func147
theorem P7 : Callable prog M5 := y3 func147
abbrev wA : Nat := 148
abbrev rP : Nat := 149
abbrev pY : Nat := 150
abbrev xB : Nat := 152
abbrev wC : Nat := 153
abbrev bj6 : Nat := 154
abbrev yQ : Nat := 155
abbrev aj1 : Nat := 156
abbrev mG : Nat := 157
abbrev pC : Nat := 158
abbrev sL : Nat := 159
abbrev iL : Nat := 160
abbrev sJ : Nat := 161
abbrev pD : Nat := 162
abbrev tY : Nat := 163
abbrev gq5 : Nat := 164
abbrev jC : Nat := 165
abbrev yT : Nat := 167
abbrev bx7 : Nat := 168
abbrev wH : Nat := 169
abbrev yS : Nat := 170
abbrev uA : Nat := 171
abbrev dR : Nat := 174
abbrev rD : Nat := 175
abbrev gq4 : Nat := 176
abbrev sK : Nat := 178
abbrev aj0 : Nat := 179
abbrev wG : Nat := 180
abbrev uE : Nat := 181
abbrev wD : Nat := 182
abbrev bj5 : Nat := 183
abbrev iK : Nat := 184
abbrev rE : Nat := 185
abbrev tX : Nat := 186
abbrev vZ : Nat := 187
abbrev yR : Nat := 188
abbrev wF : Nat := 189
abbrev vX : Nat := 190
abbrev uD : Nat := 191
abbrev uL : Nat := 211
abbrev sP : Nat := 212
abbrev uB : Nat := 213
abbrev gx9 : Nat := 214
abbrev gq7 : Nat := 215
abbrev gz0 : Nat := 216
abbrev bx9 : Nat := 217
abbrev uP : Nat := 218
abbrev wY : Nat := 219
abbrev aj3 : Nat := 229
end F
namespace T
abbrev E2 : Nat := 3
theorem dH : prog.underlying E2 = some (.int .i64) := underlying3
theorem w6 : Sz prog E2 1 := lM
theorem a6 : NoR prog E2 := ⟨_, underlying3, rfl⟩
abbrev tD : Nat := 4
theorem qG : Sz prog tD 1 := lM
theorem O4 : NoR prog tD := ⟨_, underlying4, rfl⟩
abbrev cj3 : Nat := 5
theorem zL : prog.underlying cj3 = some (.int .u8) := underlying5
theorem cj6 : Sz prog cj3 1 := lM
theorem xJ : NoR prog cj3 := ⟨_, underlying5, rfl⟩
abbrev y6 : Nat := 9
theorem n8 : prog.underlying y6 = some (.string) := underlying9
theorem q7 : Sz prog y6 1 := lM
theorem d6 : NoR prog y6 := ⟨_, underlying9, rfl⟩
abbrev cj9 : Nat := 21
theorem qF : prog.underlying cj9 = some (.int .i32) := underlying21
abbrev gF : Nat := 22
theorem r5 : prog.underlying gF = some (.slice 3) := underlying22
theorem xG : Sz prog gF 1 := lM
theorem y7 : NoR prog gF := ⟨_, underlying22, rfl⟩
theorem qH : ElT prog gF 3 1 8 := ElT.of (z := (.int .i64 0)) underlying22 u3 rfl (by decide)
abbrev tG : Nat := 23
abbrev H5 : Nat := 25
theorem j7 : prog.underlying H5 = some (.slice 9) := underlying25
theorem J1 : Sz prog H5 1 := lM
theorem c9 : NoR prog H5 := ⟨_, underlying25, rfl⟩
theorem H6 : ElT prog H5 9 1 16 := ElT.of (z := (.string ⟨#[]⟩)) underlying25 u3 rfl (by decide)
abbrev aE : Nat := 31
theorem j6 : prog.underlying aE = some (.slice 42) := underlying31
theorem k7 : NoR prog aE := ⟨_, underlying31, rfl⟩
theorem lK : ElT prog aE 42 3 32 := ElT.of (z := (.agg #[(.int .i64 0), (.int .i64 0), (.string ⟨#[]⟩)])) underlying31 u3 rfl (by decide)
abbrev tE : Nat := 32
abbrev cj8 : Nat := 38
theorem E1 : prog.underlying cj8 = some (.slice 25) := underlying38
abbrev dJ : Nat := 42
theorem g0 : Sz prog dJ 3 := lM
theorem j5 : IsR prog dJ := ⟨_, underlying42, rfl⟩
abbrev nE : Nat := 44
theorem l5 : Sz prog nE 2 := lM
theorem w4 : IsR prog nE := ⟨_, underlying44, rfl⟩
abbrev cq0 : Nat := 48
abbrev gq1 : Nat := 49
abbrev gj8 : Nat := 51
abbrev wV : Nat := 55
abbrev hj6 : Nat := 58
abbrev gz8 : Nat := 62
abbrev gq0 : Nat := 63
abbrev bx4 : Nat := 64
abbrev gj7 : Nat := 66
abbrev gj9 : Nat := 68
abbrev xF : Nat := 73
theorem qE : prog.underlying xF = some (.int .u64) := underlying73
theorem gE : Sz prog xF 1 := lM
theorem k8 : NoR prog xF := ⟨_, underlying73, rfl⟩
abbrev dG : Nat := 75
abbrev aj9 : Nat := 77
abbrev jF : Nat := 87
theorem v7 : prog.underlying jF = some (.map 9 3) := underlying87
abbrev rO : Nat := 90
abbrev C8 : Nat := 94
theorem V1 : NoR prog C8 := ⟨_, underlying94, rfl⟩
abbrev gx5 : Nat := 103
abbrev gx4 : Nat := 108
abbrev lH : Nat := 109
abbrev jL : Nat := 111
abbrev gz9 : Nat := 112
abbrev hj7 : Nat := 114
abbrev gj6 : Nat := 115
abbrev bx2 : Nat := 118
abbrev aq1 : Nat := 124
abbrev gz5 : Nat := 133
abbrev C7 : Nat := 135
theorem E8 : prog.underlying C7 = some (.map 139 138) := underlying135
theorem W9 : Sz prog C7 1 := lM
theorem j9 : NoR prog C7 := ⟨_, underlying135, rfl⟩
abbrev E3 : Nat := 136
theorem U2 : Sz prog E3 1 := lM
theorem i4 : NoR prog E3 := ⟨_, underlying136, rfl⟩
abbrev p7 : Nat := 138
theorem d3 : Sz prog p7 2 := lM
theorem i3 : IsR prog p7 := ⟨_, underlying138, rfl⟩
abbrev B1 : Nat := 139
theorem uU : prog.underlying B1 = some (.array 2 3) := underlying139
theorem C0 : Sz prog B1 2 := lM
theorem C1 : IsR prog B1 := ⟨_, underlying139, rfl⟩
abbrev cU : Nat := 141
theorem I8 : prog.underlying cU = some (.slice 138) := underlying141
theorem E4 : ElT prog cU 138 2 32 := ElT.of (z := (.agg #[(.int .i64 0), (.slice none 0 0)])) underlying141 u3 rfl (by decide)
abbrev jB : Nat := 144
abbrev zM : Nat := 150
abbrev xN : Nat := 156
abbrev bx3 : Nat := 157
abbrev gj4 : Nat := 159
abbrev gj5 : Nat := 161
abbrev aj6 : Nat := 163
abbrev cj7 : Nat := 166
abbrev bx1 : Nat := 171
abbrev aj8 : Nat := 174
abbrev aj7 : Nat := 176
abbrev xM : Nat := 179
theorem cA : prog.underlying xM = some (.slice 5) := underlying179
abbrev nC : Nat := 182
abbrev uI : Nat := 185
abbrev aq0 : Nat := 186
abbrev O3 : Nat := 188
abbrev J2 : Nat := 189
theorem u5 : prog.underlying J2 = some (.map 3 191) := underlying189
abbrev lJ : Nat := 191
abbrev cj4 : Nat := 196
abbrev cj5 : Nat := 197
abbrev bx0 : Nat := 200
abbrev sZ : Nat := 209
abbrev uJ : Nat := 211
abbrev gz6 : Nat := 213
abbrev uX : Nat := 216
abbrev xH : Nat := 218
abbrev wW : Nat := 227
abbrev xI : Nat := 229
abbrev hj4 : Nat := 236
abbrev hj5 : Nat := 242
abbrev gz7 : Nat := 248
abbrev uW : Nat := 252
abbrev nD : Nat := 254
abbrev tI : Nat := 261
abbrev uK : Nat := 263
abbrev lI : Nat := 264
abbrev uV : Nat := 266
abbrev gq3 : Nat := 270
abbrev wU : Nat := 272
abbrev rZ : Nat := 273
abbrev tH : Nat := 274
abbrev gx6 : Nat := 278
abbrev gq2 : Nat := 279
abbrev gx3 : Nat := 282
abbrev uT : Nat := 284
theorem i9 (p : Addr) (w : World) : (Instr.fieldAt 42 (.pointer (some p)) 0).run prog w = .ok (.pointer (some (p.add 0))) w := u3
theorem d7 (p : Addr) (w : World) : (Instr.fieldAt 42 (.pointer (some p)) 1).run prog w = .ok (.pointer (some (p.add 1))) w := u3
theorem n5 (p : Addr) (w : World) : (Instr.fieldAt 42 (.pointer (some p)) 2).run prog w = .ok (.pointer (some (p.add 2))) w := u3
theorem A4 (p : Addr) (w : World) : (Instr.fieldAt 44 (.pointer (some p)) 0).run prog w = .ok (.pointer (some (p.add 0))) w := u3
theorem B4 (p : Addr) (w : World) : (Instr.fieldAt 75 (.pointer (some p)) 0).run prog w = .ok (.pointer (some (p.add 0))) w := u3
theorem s8 (p : Addr) (w : World) : (Instr.fieldAt 75 (.pointer (some p)) 1).run prog w = .ok (.pointer (some (p.add 1))) w := u3
theorem d8 (p : Addr) (w : World) : (Instr.fieldAt 75 (.pointer (some p)) 2).run prog w = .ok (.pointer (some (p.add 2))) w := u3
theorem u9 (p : Addr) (w : World) : (Instr.fieldAt 138 (.pointer (some p)) 0).run prog w = .ok (.pointer (some (p.add 0))) w := u3
theorem u7 (p : Addr) (w : World) : (Instr.fieldAt 138 (.pointer (some p)) 1).run prog w = .ok (.pointer (some (p.add 1))) w := u3
theorem n7 (p : Addr) (w : World) : (Instr.fieldAt 188 (.pointer (some p)) 0).run prog w = .ok (.pointer (some (p.add 0))) w := u3
theorem n6 (p : Addr) (w : World) : (Instr.fieldAt 188 (.pointer (some p)) 1).run prog w = .ok (.pointer (some (p.add 1))) w := u3
theorem jG (x1 : Value) (x2 : Value) (w : World) : (Instr.field 138 (.agg #[x1, x2]) 1).run prog w = .ok x2 w := u3
theorem xL (w : World) : (Instr.alloc 4 true (.tuple #[])).run prog w = .ok (.pointer (some ⟨w.heap.size, 0, none⟩)) (w.alloc (.cells #[(.bool false)] 4 (0, 0))) := u3
theorem xK (w : World) : (Instr.alloc 22 true (.tuple #[])).run prog w = .ok (.pointer (some ⟨w.heap.size, 0, none⟩)) (w.alloc (.cells #[(.slice none 0 0)] 22 (0, 0))) := u3
theorem C3 (w : World) : (Instr.alloc 42 true (.tuple #[])).run prog w = .ok (.pointer (some ⟨w.heap.size, 0, none⟩)) (w.alloc (.cells #[(.int .i64 0), (.int .i64 0), (.string ⟨#[]⟩)] 42 (0, 0))) := u3
theorem O5 (w : World) : (Instr.alloc 44 true (.tuple #[])).run prog w = .ok (.pointer (some ⟨w.heap.size, 0, none⟩)) (w.alloc (.cells #[(.int .i64 0), (.int .i64 0)] 44 (0, 0))) := u3
theorem X1 (w : World) : (Instr.alloc 135 true (.tuple #[])).run prog w = .ok (.pointer (some ⟨w.heap.size, 0, none⟩)) (w.alloc (.cells #[(.map none)] 135 (0, 0))) := u3
theorem U4 (w : World) : (Instr.alloc 136 true (.tuple #[])).run prog w = .ok (.pointer (some ⟨w.heap.size, 0, none⟩)) (w.alloc (.cells #[.nilFunc] 136 (0, 0))) := u3
theorem B7 (w : World) : (Instr.alloc 138 true (.tuple #[])).run prog w = .ok (.pointer (some ⟨w.heap.size, 0, none⟩)) (w.alloc (.cells #[(.int .i64 0), (.slice none 0 0)] 138 (0, 0))) := u3
theorem tF (w : World) : (Instr.alloc 139 true (.tuple #[])).run prog w = .ok (.pointer (some ⟨w.heap.size, 0, none⟩)) (w.alloc (.cells #[(.int .i64 0), (.int .i64 0)] 139 (0, 0))) := u3
theorem X0 (x1 : Int) (x2 : Int) (w : World) : (Instr.build 42 #[(0, (.int .i64 x1)), (1, (.int .i64 x2))]).run prog w = .ok (.agg #[(.int .i64 x1), (.int .i64 x2), (.string ⟨#[]⟩)]) w := u3
theorem U3 (x1 : Int) (x2 : Int) (x3 : ByteArray) (w : World) : (Instr.build 42 #[(0, (.int .i64 x1)), (1, (.int .i64 x2)), (2, (.string x3))]).run prog w = .ok (.agg #[(.int .i64 x1), (.int .i64 x2), (.string x3)]) w := u3
theorem hX (x1 : Int) (x2 : ByteArray) (w : World) : (Instr.build 42 #[(0, (.int .i64 x1)), (2, (.string x2))]).run prog w = .ok (.agg #[(.int .i64 x1), (.int .i64 0), (.string x2)]) w := u3
theorem H9  (w : World) : (Instr.build 44 #[]).run prog w = .ok (.agg #[(.int .i64 0), (.int .i64 0)]) w := u3
theorem E5 (x1 : Int) (x2 : Int) (w : World) : (Instr.build 44 #[(0, (.int .i64 x1)), (1, (.int .i64 x2))]).run prog w = .ok (.agg #[(.int .i64 x1), (.int .i64 x2)]) w := u3
theorem W4 (x1 : Option Addr) (x2 : Nat) (x3 : Nat) (x4 : Int) (w : World) : (Instr.build 75 #[(0, (.slice x1 x2 x3)), (2, (.int .u64 x4))]).run prog w = .ok (.agg #[(.slice x1 x2 x3), (.int .i64 0), (.int .u64 x4)]) w := u3
theorem jM  (w : World) : (Instr.build 138 #[]).run prog w = .ok (.agg #[(.int .i64 0), (.slice none 0 0)]) w := u3
theorem dI (x1 : Int) (x2 : Option Addr) (x3 : Nat) (x4 : Nat) (w : World) : (Instr.build 138 #[(0, (.int .i64 x1)), (1, (.slice x2 x3 x4))]).run prog w = .ok (.agg #[(.int .i64 x1), (.slice x2 x3 x4)]) w := u3
theorem lL (x1 : Int) (x2 : Int) (w : World) : (Instr.build 139 #[(0, (.int .i64 x1)), (1, (.int .i64 x2))]).run prog w = .ok (.agg #[(.int .i64 x1), (.int .i64 x2)]) w := u3
theorem hU  (w : World) : (Instr.build 188 #[]).run prog w = .ok (.agg #[(.slice none 0 0), (.int .i64 0)]) w := u3
theorem jK (x1 : Int) (w : World) : (Instr.buildSlice 22 1 #[(0, (.int .i64 x1))]).run prog w = .ok (.slice (some ⟨w.heap.size, 0, none⟩) 1 1) (w.alloc (.cells #[(.int .i64 x1)] 3 (0, 0))) := u3
theorem jJ (x1 : Int) (x2 : Int) (w : World) : (Instr.buildSlice 22 2 #[(0, (.int .i64 x1)), (1, (.int .i64 x2))]).run prog w = .ok (.slice (some ⟨w.heap.size, 0, none⟩) 2 2) (w.alloc (.cells #[(.int .i64 x1), (.int .i64 x2)] 3 (0, 0))) := u3
theorem jI (x1 : Int) (x2 : Int) (x3 : Int) (w : World) : (Instr.buildSlice 22 3 #[(0, (.int .i64 x1)), (1, (.int .i64 x2)), (2, (.int .i64 x3))]).run prog w = .ok (.slice (some ⟨w.heap.size, 0, none⟩) 3 3) (w.alloc (.cells #[(.int .i64 x1), (.int .i64 x2), (.int .i64 x3)] 3 (0, 0))) := u3
theorem tC (x1 : Int) (x2 : Int) (x3 : Int) (x4 : Int) (w : World) : (Instr.buildSlice 22 4 #[(0, (.int .i64 x1)), (1, (.int .i64 x2)), (2, (.int .i64 x3)), (3, (.int .i64 x4))]).run prog w = .ok (.slice (some ⟨w.heap.size, 0, none⟩) 4 4) (w.alloc (.cells #[(.int .i64 x1), (.int .i64 x2), (.int .i64 x3), (.int .i64 x4)] 3 (0, 0))) := u3
theorem E9 (x1 : ByteArray) (w : World) : (Instr.buildSlice 25 1 #[(0, (.string x1))]).run prog w = .ok (.slice (some ⟨w.heap.size, 0, none⟩) 1 1) (w.alloc (.cells #[(.string x1)] 9 (0, 0))) := u3
theorem cB (x1 : ByteArray) (x2 : ByteArray) (w : World) : (Instr.buildSlice 25 2 #[(0, (.string x1)), (1, (.string x2))]).run prog w = .ok (.slice (some ⟨w.heap.size, 0, none⟩) 2 2) (w.alloc (.cells #[(.string x1), (.string x2)] 9 (0, 0))) := u3
theorem tB (x1 : ByteArray) (x2 : ByteArray) (x3 : ByteArray) (w : World) : (Instr.buildSlice 25 3 #[(0, (.string x1)), (1, (.string x2)), (2, (.string x3))]).run prog w = .ok (.slice (some ⟨w.heap.size, 0, none⟩) 3 3) (w.alloc (.cells #[(.string x1), (.string x2), (.string x3)] 9 (0, 0))) := u3
theorem tA (x1 : ByteArray) (x2 : ByteArray) (x3 : ByteArray) (x4 : ByteArray) (w : World) : (Instr.buildSlice 25 4 #[(0, (.string x1)), (1, (.string x2)), (2, (.string x3)), (3, (.string x4))]).run prog w = .ok (.slice (some ⟨w.heap.size, 0, none⟩) 4 4) (w.alloc (.cells #[(.string x1), (.string x2), (.string x3), (.string x4)] 9 (0, 0))) := u3
theorem jH (x1 : ByteArray) (x2 : ByteArray) (x3 : ByteArray) (x4 : ByteArray) (x5 : ByteArray) (w : World) : (Instr.buildSlice 25 5 #[(0, (.string x1)), (1, (.string x2)), (2, (.string x3)), (3, (.string x4)), (4, (.string x5))]).run prog w = .ok (.slice (some ⟨w.heap.size, 0, none⟩) 5 5) (w.alloc (.cells #[(.string x1), (.string x2), (.string x3), (.string x4), (.string x5)] 9 (0, 0))) := u3
theorem hT (x1 : Int) (x2 : Int) (x3 : ByteArray) (w : World) : (Instr.buildSlice 31 1 #[(0, (.agg #[(.int .i64 x1), (.int .i64 x2), (.string x3)]))]).run prog w = .ok (.slice (some ⟨w.heap.size, 0, none⟩) 1 1) (w.alloc (.cells #[(.int .i64 x1), (.int .i64 x2), (.string x3)] 42 (0, 0))) := u3
theorem hQ (x1 : Int) (x2 : Int) (x3 : ByteArray) (x4 : Int) (x5 : Int) (x6 : ByteArray) (w : World) : (Instr.buildSlice 31 2 #[(0, (.agg #[(.int .i64 x1), (.int .i64 x2), (.string x3)])), (1, (.agg #[(.int .i64 x4), (.int .i64 x5), (.string x6)]))]).run prog w = .ok (.slice (some ⟨w.heap.size, 0, none⟩) 2 2) (w.alloc (.cells #[(.int .i64 x1), (.int .i64 x2), (.string x3), (.int .i64 x4), (.int .i64 x5), (.string x6)] 42 (0, 0))) := u3
theorem rR (x1 : Option Addr) (x2 : Nat) (x3 : Nat) (w : World) : (Instr.buildSlice 38 1 #[(0, (.slice x1 x2 x3))]).run prog w = .ok (.slice (some ⟨w.heap.size, 0, none⟩) 1 1) (w.alloc (.cells #[(.slice x1 x2 x3)] 25 (0, 0))) := u3
theorem aD (x1 : Option Addr) (x2 : Nat) (x3 : Nat) (x4 : Option Addr) (x5 : Nat) (x6 : Nat) (w : World) : (Instr.buildSlice 38 2 #[(0, (.slice x1 x2 x3)), (1, (.slice x4 x5 x6))]).run prog w = .ok (.slice (some ⟨w.heap.size, 0, none⟩) 2 2) (w.alloc (.cells #[(.slice x1 x2 x3), (.slice x4 x5 x6)] 25 (0, 0))) := u3
theorem C2 (x1 : Int) (x2 : Option Addr) (x3 : Nat) (x4 : Nat) (w : World) : (Instr.buildSlice 141 1 #[(0, (.agg #[(.int .i64 x1), (.slice x2 x3 x4)]))]).run prog w = .ok (.slice (some ⟨w.heap.size, 0, none⟩) 1 1) (w.alloc (.cells #[(.int .i64 x1), (.slice x2 x3 x4)] 138 (0, 0))) := u3
theorem nX (a0 b0 : Int) (a1 b1 : Int) (a2 b2 : Str) (w : World) : (Op.equalIn 10000 42 (.agg #[.int .i64 a0, .int .i64 a1, .string ⟨(a2 : Str).toArray⟩]) (.agg #[.int .i64 b0, .int .i64 b1, .string ⟨(b2 : Str).toArray⟩])).run prog w = .ok (decide ((a0, a1, a2) = (b0, b1, b2))) w := by
  rw [run_equalIn_agg w 9999 42 _ _ (by simp only [Program.fieldsOf, underlying42]) u3]; simp only [Program.fieldsOf, underlying42]
  by_cases h0 : a0 = b0 <;> by_cases h1 : a1 = b1 <;> by_cases h2 : a2 = b2 <;>
    simp [Op.eqFields, part, isAgg, run_equalIn_int _ 9998 3 .i64 .i64 _ _ underlying3, run_equalIn_string _ 9998 9 _ _ underlying9, run_underlying underlying3, run_underlying underlying9, h0, h1, h2]
theorem nV (a0 b0 : Int) (a1 b1 : Int) (a2 b2 : Str) (w : World) : (binOp .neq 42 (.agg #[.int .i64 a0, .int .i64 a1, .string ⟨(a2 : Str).toArray⟩]) (.agg #[.int .i64 b0, .int .i64 b1, .string ⟨(b2 : Str).toArray⟩])).run prog w = .ok (.bool (decide (¬ (a0, a1, a2) = (b0, b1, b2)))) w := by rw [run_neq_struct, nX, decide_not]; rfl
theorem nZ (op : BinOp) (x y : Operand) (xs ys : Array Value) (w : World) : (eqGuard op 42 x y (.agg xs) (.agg ys)).run prog w = .ok () w := run_eqGuard_agg w op 42 x y xs ys u3
theorem nY (a0 b0 : Int) (a1 b1 : Int) (w : World) : (Op.equalIn 10000 44 (.agg #[.int .i64 a0, .int .i64 a1]) (.agg #[.int .i64 b0, .int .i64 b1])).run prog w = .ok (decide ((a0, a1) = (b0, b1))) w := by
  rw [run_equalIn_agg w 9999 44 _ _ (by simp only [Program.fieldsOf, underlying44]) u3]; simp only [Program.fieldsOf, underlying44]
  by_cases h0 : a0 = b0 <;> by_cases h1 : a1 = b1 <;>
    simp [Op.eqFields, part, isAgg, run_equalIn_int _ 9998 3 .i64 .i64 _ _ underlying3, run_underlying underlying3, h0, h1]
theorem nW (a0 b0 : Int) (a1 b1 : Int) (w : World) : (binOp .eql 44 (.agg #[.int .i64 a0, .int .i64 a1]) (.agg #[.int .i64 b0, .int .i64 b1])).run prog w = .ok (.bool (decide ((a0, a1) = (b0, b1)))) w := by rw [run_eql_struct, nY]; rfl
theorem pA (op : BinOp) (x y : Operand) (xs ys : Array Value) (w : World) : (eqGuard op 44 x y (.agg xs) (.agg ys)).run prog w = .ok () w := run_eqGuard_agg w op 44 x y xs ys u3
end T
end Go.Proofs.YtpihanmcnmlodaaGreatDoor
end
section
namespace Go.W
universe u
open Go Go.RowKit
class El (α : Type) extends Inhabited α where
  cells : α → List Value
  sz : Nat
  len : ∀ a, (cells a).length = sz
  one : ∀ a, ∀ u ∈ cells a, u.oneCell' = true
def rows {α : Type} [El α] (l : List α) : List Value := l.flatMap El.cells
instance : El Str where
  default := []
  cells s := [str s]
  sz := 1
  len _ := rfl
  one a u h := by simp at h; subst h; rfl
instance : El Int where
  default := 0
  cells n := [int n]
  sz := 1
  len _ := rfl
  one a u h := by simp at h; subst h; rfl
instance : El UInt8 where
  default := 0
  cells n := [.int .u8 n.toNat]
  sz := 1
  len _ := rfl
  one a u h := by simp at h; subst h; rfl
abbrev Mk := Int × Int × Str
instance : El Mk where
  default := (0, 0, [])
  cells m := [int m.1, int m.2.1, str m.2.2]
  sz := 3
  len _ := rfl
  one a u h := by simp at h; rcases h with h | h | h <;> subst h <;> rfl
structure Sl (α : Type) where
  a : Option Addr
  c : Nat
  l : List α
instance {α : Type} : El (Sl α) where
  default := ⟨none, 0, []⟩
  cells p := [.slice p.a p.l.length p.c]
  sz := 1
  len _ := rfl
  one a u h := by simp at h; subst h; rfl
section
variable {α : Type} [El α]
theorem dM : rows ([] : List α) = [] := rfl
theorem I2 (a : α) (l : List α) : rows (a :: l) = El.cells a ++ rows l := rfl
theorem y4 (l l' : List α) : rows (l ++ l') = rows l ++ rows l' := by simp [rows]
theorem O8 (l : List α) : (rows l).length = l.length * El.sz α := by
  induction l with
  | nil => simp [dM]
  | cons a l ih => rw [I2, List.length_append, El.len, ih, List.length_cons, Nat.add_mul, Nat.one_mul, Nat.add_comm]
theorem U5 (l : List α) : ∀ u ∈ rows l, u.oneCell' = true := by
  intro u hu; obtain ⟨a, _, h⟩ := List.mem_flatMap.1 hu; exact El.one a u h
theorem lP (l : List α) (k : Nat) : (rows l).drop (k * El.sz α) = rows (l.drop k) := by
  induction l generalizing k with
  | nil => simp [dM]
  | cons a l ih =>
    cases k with
    | zero => simp
    | succ k =>
      rw [I2, List.drop_succ_cons, ← ih, List.drop_append, El.len, List.drop_eq_nil_of_le (by rw [El.len, Nat.succ_mul]; omega), List.nil_append]
      congr 1
      rw [Nat.succ_mul]
      omega
theorem rows_get' (l : List α) (i j : Nat) (hi : i < l.length) (hj : j < El.sz α) : (rows l)[i * El.sz α + j]? = (El.cells (l.getD i default))[j]? := by
  have h := congrArg (·[j]?) (lP l i); simp only [List.getElem?_drop] at h; rw [h, List.drop_eq_getElem_cons hi, I2, List.getElem?_append_left (by rw [El.len]; exact hj)]
  simp [List.getD_eq_getElem?_getD, hi]
theorem rows_get {l : List α} {i j : Nat} {v : Value} (hi : i < l.length) (hv : (El.cells (l.getD i default))[j]? = some v) : (rows l)[i * El.sz α + j]? = some v := by
  have hj : j < El.sz α := by
    have := (List.getElem?_eq_some_iff.1 hv).1
    rwa [El.len] at this
  rw [rows_get' l i j hi hj, hv]
theorem b4 {l : List α} {i : Nat} {v : Value} (hi : i < l.length) (hv : (El.cells (l.getD i default))[0]? = some v) : (rows l)[i * El.sz α]? = some v := rows_get (j := 0) hi hv
theorem u1 {l : List α} {i : Nat} (hi : i < l.length) : ∀ j u, (El.cells (l.getD i default))[j]? = some u → (rows l)[i * El.sz α + j]? = some u := fun j u h => rows_get hi h
theorem rows_lt {l : List α} {i : Nat} (hi : i < l.length) (h0 : 0 < El.sz α) : i * El.sz α < (rows l).length := by
  rw [O8]; exact Nat.mul_lt_mul_of_pos_right hi h0
theorem gG (l : List α) (k : Nat) : (rows l).take (k * El.sz α) = rows (l.take k) := by
  induction l generalizing k with
  | nil => simp [dM]
  | cons a l ih =>
    cases k with
    | zero => simp [dM]
    | succ k =>
      rw [I2, List.take_succ_cons, I2, ← ih, Nat.succ_mul, List.take_append, El.len, List.take_of_length_le (by rw [El.len]; omega)]
      congr 2
      omega
end
theorem tP {c : Cx} {Q : Exit → Act → World → Prop} {fr : Fr} {hp : Hp} {L : List Fact} {ops : Array Oper} {rest : List Oper} {d : Tmp} {ty : TypeId} {pos : String} {af : Array Edge}
    {s t : TypeId} {x : Operand} {ks k k' : IntKind} {a : Int} (z : Int) (hd : Nat.blt d c.n = true) (hs : c.P.underlying s = some (.int ks)) (ht : c.P.underlying t = some (.int k')) (hx : ev fr x = some (.int k a)) (hz : k'.wrap a = z)
    (kk : HL c ops Q rest ((d, .int k' z) :: fr) hp L) : HL c ops Q (⟨some d, .convert s t x, ty, pos, af, none⟩ :: rest) fr hp L :=
  u0 _ rfl rfl hd (fun a' w ha _ => by
    simp only [execOp, ha.ev hx, Sem.run_bind, convert, run_underlying hs, run_underlying ht, Result.andThen_ok]; rw [← hz]
    cases ks <;> rfl) kk
theorem r_rem {c : Cx} {Q : Exit → Act → World → Prop} {fr : Fr} {hp : Hp} {L : List Fact} {ops : Array Oper} {rest : List Oper} {d : Tmp} {ty : TypeId} {pos : String} {af : Array Edge}
    {t yt : TypeId} {x y : Operand} {kd : IntKind} {a b : Int} (hd : Nat.blt d c.n = true) (hx : ev fr x = some (.int kd a)) (hy : ev fr y = some (.int kd b)) (hb : b ≠ 0)
    (kk : HL c ops Q rest ((d, .int kd (a.tmod b)) :: fr) hp L) : HL c ops Q (⟨some d, .binOp .rem t x y yt, ty, pos, af, none⟩ :: rest) fr hp L :=
  I0 _ hd hx hy (fun _ => rfl) (fun w => by
    have : (binOp .rem t (.int kd a) (.int kd b)) = Op.intDiv .rem kd a b := by cases kd <;> rfl
    rw [this]
    simp [Op.intDiv, hb]) kk
theorem wrapU (n : Int) : 0 ≤ IntKind.u64.wrap n ∧ IntKind.u64.wrap n < 18446744073709551616 := by
  simp only [IntKind.wrap, IntKind.bits, IntKind.signed]
  simp
  omega
theorem u6 {α : Type} [El α] {c : Cx} {Q : Exit → Act → World → Prop} {fr : Fr} {hp : Hp} {L : List Fact} {ops : Array Oper} {rest : List Oper} {d : Tmp} {ty : TypeId} {pos : String} {af : Array Edge}
    {t e : TypeId} {x i : Operand} {A : Option Addr} {n cp : Nat} {kd : IntKind} {z : Int} (l : List α) (j : Nat) (hd : Nat.blt d c.n = true) (ht : c.P.underlying t = some (.slice e)) (hz : Sz c.P e (El.sz α))
    (hx : ev fr x = some (.slice A n cp)) (hi : ev fr i = some (.int kd z)) (hjz : z = (j : Int)) (hr : Row A (rows l) ∈ L) (hn : n = l.length) (hj : j < l.length) (h0 : 0 < El.sz α)
    (k : HL c ops Q rest ((d, .pointer (some ((adr A).add (j * El.sz α)))) :: fr) hp L) : HL c ops Q (⟨some d, .indexAddr t x i, ty, pos, af, none⟩ :: rest) fr hp L :=
  vE j hd ht hz hx hi hjz (by omega) hr (rows_lt hj h0) k
def Rows2 {α : Type} [El α] (A : Option Addr) (ps : List (Sl α)) : Fact where
  P w := (Row A (rows ps)).P w ∧ ∀ p ∈ ps, (Row p.a (rows p.l)).P w
  fp k := (Row A (rows ps)).fp k ∨ ∃ p ∈ ps, (Row p.a (rows p.l)).fp k
  st w w' h hP := ⟨(Row A (rows ps)).st w w' (fun k hk => h k (.inl hk)) hP.1, fun p hp => (Row p.a (rows p.l)).st w w' (fun k hk => h k (.inr ⟨p, hp, hk⟩)) (hP.2 p hp)⟩
  lt w hP k hk := by
    rcases hk with hk | ⟨p, hp, hk⟩
    · exact (Row A (rows ps)).lt w hP.1 k hk
    exact (Row p.a (rows p.l)).lt w (hP.2 p hp) k hk
section
variable {c : Cx} {Q : Exit → Act → World → Prop} {fr : Fr} {hp : Hp} {L : List Fact} {ops : Array Oper} {rest : List Oper}
theorem cj0 {α : Type} [El α] {b : Bx} {w : World} {A : Option Addr} {ps : List (Sl α)} (h : Rows2 A ps ∈ L) (hw : WI b w hp L) : WI b w hp (Row A (rows ps) :: L) :=
  S6 hw (hw.fs _ h).1 (fun k hk => ⟨_, h, .inl hk⟩)
theorem cj1 {α : Type} [El α] {b : Bx} {w : World} {A : Option Addr} {ps : List (Sl α)} {p : Sl α} (h : Rows2 A ps ∈ L) (hp' : p ∈ ps) (hw : WI b w hp L) : WI b w hp (Row p.a (rows p.l) :: L) :=
  S6 hw ((hw.fs _ h).2 p hp') (fun k hk => ⟨_, h, .inr ⟨p, hp', hk⟩⟩)
theorem kJ {α : Type} [El α] {A : Option Addr} {ps : List (Sl α)} {x : Code} (h : Rows2 A ps ∈ L) (k : HC c x Q fr hp (Row A (rows ps) :: L)) : HC c x Q fr hp L := fun a w ha hw => k a w ha (cj0 h hw)
theorem kI {α : Type} [El α] {A : Option Addr} {ps : List (Sl α)} {p : Sl α} (h : Rows2 A ps ∈ L) (hp' : p ∈ ps) (k : HL c ops Q rest fr hp (Row p.a (rows p.l) :: L)) : HL c ops Q rest fr hp L := fun a w ha hw => k a w ha (cj1 h hp' hw)
variable {d : Tmp} {ty : TypeId} {pos : String} {af : Array Edge}
theorem p_t {x y z : Operand} {v : Value} {b : Bool} (hd : Nat.blt d c.n = true) (hx : ev fr x = some (.bool b)) (hb : b = true) (hy : ev fr y = some v) (k : HL c ops Q rest ((d, v) :: fr) hp L) : HL c ops Q (⟨some d, .pick x y z, ty, pos, af, none⟩ :: rest) fr hp L := by
  subst hb; exact cx3 hd hx hy k
theorem p_f {x y z : Operand} {v : Value} {b : Bool} (hd : Nat.blt d c.n = true) (hx : ev fr x = some (.bool b)) (hb : b = false) (hz : ev fr z = some v) (k : HL c ops Q rest ((d, v) :: fr) hp L) : HL c ops Q (⟨some d, .pick x y z, ty, pos, af, none⟩ :: rest) fr hp L := by
  subst hb; exact cx4 hd hx hz k
theorem c_t {x : Operand} {b : Bool} {thn els : Code} (hx : ev fr x = some (.bool b)) (hb : b = true) (ht : HC c thn Q fr hp L) : HC c (.cond x thn els) Q fr hp L := by subst hb; exact az9 hx ht
theorem c_f {x : Operand} {b : Bool} {thn els : Code} (hx : ev fr x = some (.bool b)) (hb : b = false) (hf : HC c els Q fr hp L) : HC c (.cond x thn els) Q fr hp L := by subst hb; exact bj0 hx hf
theorem bt1 {b : Bool} (h : (b == true) = true) : b = true := by cases b <;> simp_all
theorem bt2 {b : Bool} (h : (b == false) = false) : b = true := by cases b <;> simp_all
theorem bf1 {b : Bool} (h : (b == false) = true) : b = false := by cases b <;> simp_all
theorem bf2 {b : Bool} (h : (b == true) = false) : b = false := by cases b <;> simp_all
theorem g_und {o : Oper} {j : Nat} {want : Bool} {t : Tmp} {v : Value} (ho : o.dst = some d) (hg : o.guard = some (j, want)) (hd : Nat.blt d c.n = true) (hj : (ops[j]?).bind (·.dst) = some t) (hv : lk fr t = some v) (hu : v = undef)
    (k : HL c ops Q rest ((d, undef) :: fr) hp L) : HL c ops Q (o :: rest) fr hp L := by
  subst hu; intro a w ha hw; refine uS ?_ ?_
  · rw [Region.wanted, hg]
    show (yielded ops a.tmps j == some want) = false; have h1 := ha.at_ t _ hv
    have : yielded ops a.tmps j = none := by
      unfold yielded; rw [hj]; simp only [Option.bind_some]
      cases h2 : a.tmps[t]? with
      | none => rfl
      | some u => simp [Array.getD_eq_getD_getElem?, h2, undef] at h1; rw [h1]
    rw [this]; rfl
  rw [ho]; exact k _ _ (ha.put (by simpa using hd) _) hw
theorem l8 {dst : Option Tmp} {op : Op} {j : Nat} {want b : Bool} {t : Tmp} (hj : (ops[j]?).bind (·.dst) = some t) (hv : lk fr t = some (.bool b))
    (hy : (b == want) = true → HL c ops Q (⟨dst, op, ty, pos, af, some (j, want)⟩ :: rest) fr hp L) (hn : (b == want) = false → HL c ops Q (⟨dst, op, ty, pos, af, some (j, want)⟩ :: rest) fr hp L) :
    HL c ops Q (⟨dst, op, ty, pos, af, some (j, want)⟩ :: rest) fr hp L := by
  cases hb : (b == want)
  · exact hn hb
  exact hy hb
theorem vQ {O0 : Hp} {K : Env → Prop} {r : List Oper} {E : Env} {want b : Bool} {t : Tmp} (hv : lkE E t = some (.ex (.bool b))) (hy : (b == want) = true → HB c ops fr O0 hp L K r E) (hn : (b == want) = false → HB c ops fr O0 hp L K r E) : HB c ops fr O0 hp L K r E := by
  cases hb : (b == want)
  · exact hn hb
  exact hy hb
theorem i6 {x : Operand} {p : Prop} [Decidable p] {thn els : Code} (hx : ev fr x = some (.bool (decide p))) (ht : p → HC c thn Q fr hp L) (hf : ¬ p → HC c els Q fr hp L) : HC c (.cond x thn els) Q fr hp L :=
  c8 hx (fun h => ht (of_decide_eq_true h)) (fun h => hf (of_decide_eq_false h))
end
theorem m0 {α : Type u} {a  : α} {l : List α} : a ∈ a :: l := .head _
theorem m1 {α : Type u} {a x0 : α} {l : List α} : a ∈ x0 :: a :: l := .tail _ (.head _)
theorem m2 {α : Type u} {a x0 x1 : α} {l : List α} : a ∈ x0 :: x1 :: a :: l := .tail _ (.tail _ (.head _))
theorem m3 {α : Type u} {a x0 x1 x2 : α} {l : List α} : a ∈ x0 :: x1 :: x2 :: a :: l := .tail _ (.tail _ (.tail _ (.head _)))
theorem m4 {α : Type u} {a x0 x1 x2 x3 : α} {l : List α} : a ∈ x0 :: x1 :: x2 :: x3 :: a :: l := .tail _ (.tail _ (.tail _ (.tail _ (.head _))))
theorem m5 {α : Type u} {a x0 x1 x2 x3 x4 : α} {l : List α} : a ∈ x0 :: x1 :: x2 :: x3 :: x4 :: a :: l := .tail _ (.tail _ (.tail _ (.tail _ (.tail _ (.head _)))))
theorem m6 {α : Type u} {a x0 x1 x2 x3 x4 x5 : α} {l : List α} : a ∈ x0 :: x1 :: x2 :: x3 :: x4 :: x5 :: a :: l := .tail _ (.tail _ (.tail _ (.tail _ (.tail _ (.tail _ (.head _))))))
theorem m7 {α : Type u} {a x0 x1 x2 x3 x4 x5 x6 : α} {l : List α} : a ∈ x0 :: x1 :: x2 :: x3 :: x4 :: x5 :: x6 :: a :: l := .tail _ (.tail _ (.tail _ (.tail _ (.tail _ (.tail _ (.tail _ (.head _)))))))
theorem m8 {α : Type u} {a x0 x1 x2 x3 x4 x5 x6 x7 : α} {l : List α} : a ∈ x0 :: x1 :: x2 :: x3 :: x4 :: x5 :: x6 :: x7 :: a :: l := .tail _ (.tail _ (.tail _ (.tail _ (.tail _ (.tail _ (.tail _ (.tail _ (.head _))))))))
theorem m9 {α : Type u} {a x0 x1 x2 x3 x4 x5 x6 x7 x8 : α} {l : List α} : a ∈ x0 :: x1 :: x2 :: x3 :: x4 :: x5 :: x6 :: x7 :: x8 :: a :: l := .tail _ (.tail _ (.tail _ (.tail _ (.tail _ (.tail _ (.tail _ (.tail _ (.tail _ (.head _)))))))))
theorem m10 {α : Type u} {a x0 x1 x2 x3 x4 x5 x6 x7 x8 x9 : α} {l : List α} : a ∈ x0 :: x1 :: x2 :: x3 :: x4 :: x5 :: x6 :: x7 :: x8 :: x9 :: a :: l := .tail _ (.tail _ (.tail _ (.tail _ (.tail _ (.tail _ (.tail _ (.tail _ (.tail _ (.tail _ (.head _))))))))))
theorem m11 {α : Type u} {a x0 x1 x2 x3 x4 x5 x6 x7 x8 x9 x10 : α} {l : List α} : a ∈ x0 :: x1 :: x2 :: x3 :: x4 :: x5 :: x6 :: x7 :: x8 :: x9 :: x10 :: a :: l := .tail _ (.tail _ (.tail _ (.tail _ (.tail _ (.tail _ (.tail _ (.tail _ (.tail _ (.tail _ (.tail _ (.head _)))))))))))
theorem m12 {α : Type u} {a x0 x1 x2 x3 x4 x5 x6 x7 x8 x9 x10 x11 : α} {l : List α} : a ∈ x0 :: x1 :: x2 :: x3 :: x4 :: x5 :: x6 :: x7 :: x8 :: x9 :: x10 :: x11 :: a :: l := .tail _ (.tail _ (.tail _ (.tail _ (.tail _ (.tail _ (.tail _ (.tail _ (.tail _ (.tail _ (.tail _ (.tail _ (.head _))))))))))))
theorem perm3 {α : Type} (a b c : α) (l : List α) : (a :: b :: c :: l).Perm (c :: a :: b :: l) := by
  have h1 : (a :: b :: c :: l).Perm (a :: c :: b :: l) := (List.Perm.swap c b l).cons a; exact h1.trans (.swap c a _)
theorem perm2 {α : Type} (a b : α) (l : List α) : (a :: b :: l).Perm (b :: a :: l) := .swap b a l
theorem perm4 {α : Type} (a b c d : α) (l : List α) : (a :: b :: c :: d :: l).Perm (d :: a :: b :: c :: l) := ((perm3 b c d l).cons a).trans (.swap d a _)
end Go.W
end
namespace Go.W
theorem J0 {l l' : Hp} (h : List.Perm l l' := by first | exact .refl _ | exact perm2 _ _ _ | exact perm3 _ _ _ _ | exact perm4 _ _ _ _ _) : List.Perm l l' := h
theorem bt_x {b : Bool} (h : b = true := by first | rfl | assumption | exact bt1 (by assumption) | exact bt2 (by assumption)) : b = true := h
theorem bq8 {b : Bool} (h : b = false := by first | rfl | assumption | exact bf1 (by assumption) | exact bf2 (by assumption)) : b = false := h
theorem ret_u {k : Con Unit} {c : Cx} {fr : Fr} {hp : Hp} {L : List Fact} {fn : Func} {w0 : World} {t : Tmp} (hres : fn.results = #[.tmp t] := by exact rfl) (hv : lk fr t = some (k.val ()) := by exact rfl) (hb : c.b = k.entry w0 := by exact rfl) (hi : k.inv () := by exact trivial) (hh : (k.hpO ()).Sublist hp := by exact nK) (hL : LSub L (k.LO ()) := by exact trivial) (hD : c.D = [] := by exact rfl) : HQ c (bodyPost c.P fn (k.post w0)) .ret fr hp L := ret1 () hres hv hb hi hh hL hD
end Go.W
section
namespace Go.W
open Go Go.RowKit
section
variable {c : Cx} {Q : Exit → Act → World → Prop} {fr : Fr} {hp : Hp} {L : List Fact} {ops : Array Oper} {rest : List Oper}
variable {d : Tmp} {ty : TypeId} {pos : String} {af : Array Edge}
theorem cz8 {g : Nat} {cs : Array Value} {t : TypeId} {fz : Nat × Nat} {w : World} (h : w.heap[g]? = some (.cells cs t fz)) {us : List Value} (hu : us <+: cs.toList) : (Row (n9 g) us).P w := fun j u hj => by
  refine ⟨_, rfl, ?_⟩; rw [gD, Nat.zero_add]; obtain ⟨r, hr⟩ := hu
  have : cs[j]? = some u := by
    rw [← Array.getElem?_toList, ← hr, List.getElem?_append]; have hlt : j < us.length := (List.getElem?_eq_some_iff.1 hj).1; rw [if_pos hlt, hj]
  simp [World.cell?, h, this]
theorem xQ (s : Str) : rows s = s.map (fun b => Value.int .u8 b.toNat) := by
  induction s with
  | nil => rfl
  | cons a s ih => rw [I2, ih]; rfl
theorem r_bytes {s t e : TypeId} {x : Operand} {l : Str} (hd : Nat.blt d c.n = true) (hs : c.P.underlying s = some .string) (ht : c.P.underlying t = some (.slice e)) (he : c.P.underlying e = some (.int .u8)) (hx : ev fr x = some (str l))
    (k : ∀ g cap, HL c ops Q rest ((d, .slice (n9 g) l.length cap) :: fr) hp (Row (n9 g) (rows l) :: L)) : HL c ops Q (⟨some d, .convert s t x, ty, pos, af, none⟩ :: rest) fr hp L :=
  iJ rfl rfl hd fun a w ha hw => by
    have h1 := run_bytes_of_string (P := c.P) w s t e (.mk l.toArray) hs ht he; refine ⟨_, (w.drew.alloc (.cells (bytesRow (.mk l.toArray) (grownCap w (ByteArray.mk l.toArray).size 0 e)) e ((bytesRow (.mk l.toArray) (grownCap w (ByteArray.mk l.toArray).size 0 e)).size, (bytesRow (.mk l.toArray) (grownCap w (ByteArray.mk l.toArray).size 0 e)).size + 1))), hp, _, ?_, ?_, k w.heap.size (grownCap w (ByteArray.mk l.toArray).size 0 e)⟩
    · simp only [execOp, ha.ev hx, str, Sem.run_bind, h1, Result.andThen_ok, Sem.run_pure]
      rfl
    have h2 := (hw.quiet (lD w)).alloc (.cells (bytesRow (.mk l.toArray) (grownCap w (ByteArray.mk l.toArray).size 0 e)) e ((bytesRow (.mk l.toArray) (grownCap w (ByteArray.mk l.toArray).size 0 e)).size, (bytesRow (.mk l.toArray) (grownCap w (ByteArray.mk l.toArray).size 0 e)).size + 1)); refine WI.letgo h2 (cz8 (h2.own (w.heap.size, _) (.head _)) ?_) (fun k hk => by obtain ⟨ad, e', h3, _⟩ := hk; cases e'; exact h3.symm); rw [xQ, bytesRow]
    simp
theorem D6 {t e : TypeId} {x : Operand} {g : Nat} {cs : Array Value} {fz : Nat × Nat} {n : Nat} (hd : Nat.blt d c.n = true) (ht' : IsR c.P t) (hz' : Sz c.P t n) (hx : ev fr x = some (.pointer (n9 g))) (h : (g, Obj.cells cs e fz) ∈ hp) (hn : cs.size = n)
    (k : HL c ops Q rest ((d, .agg cs) :: fr) hp L) : HL c ops Q (⟨some d, .load t x, ty, pos, af, none⟩ :: rest) fr hp L :=
  v8 (cs := cs.toList) hd ht' hz' hx (by simpa using hn) (bq6 h (fun i u hu => by simpa using hu)) k
end
end Go.W
end
section
namespace Go.W
open Go Go.RowKit
abbrev Ment (κ : Type) := κ × Value × Nat
def entOf {κ : Type} (enc : κ → Value) (p : Ment κ) : MapEntry := ⟨enc p.1, p.2.1, p.2.2⟩
def mapO {κ : Type} (enc : κ → Value) (l : List (Ment κ)) (clk : Nat) : Obj := .map (l.map (entOf enc)).toArray clk
def findM {κ : Type} [DecidableEq κ] (k : κ) : List (Ment κ) → Nat → Option (Nat × Value)
  | [], _ => none
  | p :: l, i => if p.1 = k then some (i, p.2.1) else findM k l (i + 1)
def getM {κ : Type} [DecidableEq κ] (l : List (Ment κ)) (k : κ) : Option Value := (findM k l 0).map (·.2)
def putM {κ : Type} [DecidableEq κ] (l : List (Ment κ)) (k : κ) (v : Value) (clk : Nat) : List (Ment κ) :=
  match findM k l 0 with
  | some (i, _) => l.modify i fun p => (k, v, p.2.2)
  | none => l ++ [(k, v, clk)]
def clkM {κ : Type} [DecidableEq κ] (l : List (Ment κ)) (k : κ) (clk : Nat) : Nat := if (findM k l 0).isSome then clk else clk + 1
structure KeyC (P : Program) (kt : TypeId) {κ : Type} [DecidableEq κ] (enc : κ → Value) : Prop where
  chk : ∀ b k w, (Instr.checkKey b 10000 kt (enc k)).run P w = .ok () w
  find : ∀ k l w, (Instr.findKey kt (enc k) (l.map (entOf enc))).run P w = .ok (findM k l 0) w
  stays : ∀ k w, (Instr.keyThatStays (enc k) (enc k)).run P w = .ok (enc k) w
theorem nS (k : Int) : ∀ (l : List (Ment Int)) (i : Nat), Instr.findNow (.int .i64) (int k) (l.map (entOf int)) i = some (findM k l i)
  | [], i => rfl
  | p :: l, i => by
    rw [List.map_cons, Instr.findNow]; simp only [Instr.sameNow, entOf, findM]
    by_cases h : p.1 = k
    · simp [h]
    have h' : ¬ k = p.1 := fun e => h e.symm; simp only [if_true, h, if_false, beq_eq_false_iff_ne.2 h']; exact nS k l (i + 1)
theorem nR (k : Str) : ∀ (l : List (Ment Str)) (i : Nat), Instr.findNow .string (str k) (l.map (entOf str)) i = some (findM k l i)
  | [], i => rfl
  | p :: l, i => by
    rw [List.map_cons, Instr.findNow]; simp only [str, Instr.sameNow, entOf, findM]
    have hb : ((ByteArray.mk k.toArray) == ByteArray.mk p.1.toArray) = decide (p.1 = k) := by
      rw [Bool.eq_iff_iff, MapKept.bytes_beq, decide_eq_true_iff]
      constructor
      · intro e
        injection e with e
        have := congrArg Array.toList e
        simpa using this.symm
      intro e; rw [e]
    rw [hb]
    by_cases h : p.1 = k
    · simp [h]
    simp only [h, decide_false, if_false]; exact nR k l (i + 1)
theorem KeyC.int {P : Program} {kt : TypeId} (h : P.underlying kt = some (.int .i64)) : KeyC P kt W.int where
  chk b k w := MapKept.run_checkKey h (by simp [MapKept.IsKey]) b 9999
  find k l w := MapKept.run_findKey h (nS k l 0)
  stays k w := MapKept.run_keyThatStays (d := .int .i64) (by simp [MapKept.IsKey])
theorem KeyC.str {P : Program} {kt : TypeId} (h : P.underlying kt = some .string) : KeyC P kt W.str where
  chk b k w := MapKept.run_checkKey h (by simp [MapKept.IsKey, W.str]) b 9999
  find k l w := MapKept.run_findKey h (nR k l 0)
  stays k w := MapKept.run_keyThatStays (d := .string) (by simp [MapKept.IsKey, W.str])
def pair (p : Int × Int) : Value := .agg #[W.int p.1, W.int p.2]
theorem bI {P : Program} {e : TypeId} (he : P.underlying e = some (.int .i64)) (cs : Array Value) (i : Nat) (v : Value) (hv : cs[i]? = some v) (w : World) : (part e cs i).run P w = .ok v w := by
  have hagg : (isAgg e).run P w = .ok false w := by
    unfold isAgg; rw [Sem.run_bind, run_underlying he w]
    rfl
  simp [part, Sem.run_bind, hagg, hv]
theorem yY {P : Program} {e : TypeId} (he : P.underlying e = some (.int .i64)) (d : Nat) (a b : Int) (w : World) : (Op.equalIn (d + 1) e (W.int a) (W.int b)).run P w = .ok (a == b) w := by
  simp [Op.equalIn, run_underlying he]
theorem eq_pair {P : Program} {kt e : TypeId} (h : P.underlying kt = some (.array 2 e)) (he : P.underlying e = some (.int .i64)) (hz : Sz P e 1) (p q : Int × Int) (w : World) : (Op.equal kt (pair p) (pair q)).run P w = .ok (decide (p = q)) w := by
  have hs := S7 hz w
  have key : ∀ d, (Op.equalIn (d + 2) kt (pair p) (pair q)).run P w = .ok (decide (p = q)) w := by
    intro d; obtain ⟨a, b⟩ := p; obtain ⟨a', b'⟩ := q; have p0 := bI he #[W.int a, W.int b] 0 (W.int a) rfl w; have p1 := bI he #[W.int a, W.int b] 1 (W.int b) rfl w; have q0 := bI he #[W.int a', W.int b'] 0 (W.int a') rfl w; have q1 := bI he #[W.int a', W.int b'] 1 (W.int b') rfl w; unfold Op.equalIn; simp only [Sem.run_bind, run_underlying h, pair, hs, Result.andThen_ok, Std.Legacy.Range.forIn_eq_forIn_range', Std.Legacy.Range.size, Nat.sub_zero, Nat.reduceAdd, Nat.reduceSub, Nat.reduceDiv, List.range', List.forIn_cons, List.forIn_nil, Nat.zero_mul, Nat.mul_one, Nat.zero_add, p0, p1, q0, q1, yY he d]
    by_cases h1 : a = a'
    · subst h1
      by_cases h2 : b = b'
      · subst h2; simp [p1, yY he d]
      simp [h2, p1, q1, yY he d]
    simp [h1]
  exact key 9998
theorem rL {P : Program} {kt e : TypeId} (h : P.underlying kt = some (.array 2 e)) (he : P.underlying e = some (.int .i64)) (hz : Sz P e 1) (k : Int × Int) (w : World) : ∀ (l : List (Ment (Int × Int))) (i : Nat), (Instr.findAsking kt (pair k) (l.map (entOf pair)) i).run P w = .ok (findM k l i) w
  | [], i => rfl
  | p :: l, i => by
    rw [List.map_cons, Instr.findAsking]; simp only [Sem.run_bind, entOf, eq_pair h he hz, Result.andThen_ok, findM]
    by_cases hk : p.1 = k
    · simp [hk]
    have h' : ¬ k = p.1 := fun e => hk e.symm; simp only [hk, h', decide_false, Bool.false_eq_true, if_false]; exact rL h he hz k w l (i + 1)
theorem KeyC.pair {P : Program} {kt e : TypeId} (h : P.underlying kt = some (.array 2 e)) (he : P.underlying e = some (.int .i64)) (hz : Sz P e 1) : KeyC P kt W.pair where
  chk b k w := by
    have hs := S7 hz w; have p0 := bI he #[W.int k.1, W.int k.2] 0 (W.int k.1) rfl w; have p1 := bI he #[W.int k.1, W.int k.2] 1 (W.int k.2) rfl w; have c : ∀ (n : Int), (Instr.checkKey b 9999 e (W.int n)).run P w = .ok () w := fun n => MapKept.run_checkKey he (by simp [MapKept.IsKey]) b 9998; unfold Instr.checkKey
    simp [run_underlying h, W.pair, hs, Std.Legacy.Range.forIn_eq_forIn_range', List.range', p0, p1, c]
  find k l w := by
    unfold Instr.findKey; simp only [Sem.run_bind, run_underlying h, Result.andThen_ok]
    have : Instr.findNow (.array 2 e) (W.pair k) (l.map (entOf W.pair)) 0 = none ∨ (l = [] ∧ Instr.findNow (.array 2 e) (W.pair k) (l.map (entOf W.pair)) 0 = some none) := by
      cases l with
      | nil => exact .inr ⟨rfl, rfl⟩
      | cons p l => exact .inl rfl
    rcases this with h1 | ⟨rfl, h1⟩
    · rw [h1]
      exact rL h he hz k w l 0
    rw [h1]; rfl
  stays k w := by
    obtain ⟨a, b⟩ := k
    have : Instr.sameBits 10000 (W.pair (a, b)) (W.pair (a, b)) = true := by
      simp [Instr.sameBits, W.pair]
    unfold Instr.keyThatStays; rw [if_pos this]
    rfl
/-! ### Cuts aS9 facts; perms -/
theorem E7 {α : Type} {l l' : List α} (h : ∀ p : α → Bool, l.countP p = l'.countP p) : l.Perm l' := by
  classical
  refine List.perm_iff_count.2 fun a => ?_
  simpa [List.count] using h (· == a)
theorem pm1 {α : Type} (l : List α) (a b c : α) : (a :: b :: (l ++ [c])).Perm (l ++ [a, b, c]) := E7 fun p => by simp only [List.countP_append, List.countP_cons, List.countP_nil]; omega
theorem pm2 {α : Type} (l : List α) (a b c : α) : (l ++ [a, b, c]).Perm (b :: (l ++ [a, c])) := E7 fun p => by simp only [List.countP_append, List.countP_cons, List.countP_nil]; omega
theorem pm3 {α : Type} (l : List α) (a b c : α) : (a :: (l ++ [b, c])).Perm (l ++ [a, b, c]) := E7 fun p => by simp only [List.countP_append, List.countP_cons, List.countP_nil]; omega
theorem pm4 {α : Type} (l : List α) (a b c : α) : (l ++ [a, b, c]).Perm (a :: (l ++ [b, c])) := (pm3 l a b c).symm
theorem pm5 {α : Type} (l : List α) (a b c : α) : (a :: (l ++ [b, c])).Perm (b :: c :: a :: l) := E7 fun p => by simp only [List.countP_append, List.countP_cons, List.countP_nil]; omega
theorem pm6 {α : Type} (l : List α) (a b c : α) : (b :: c :: a :: l).Perm ((a :: l) ++ [b, c]) := E7 fun p => by simp only [List.countP_append, List.countP_cons, List.countP_nil]; omega
theorem pm7 {α : Type} (l : List α) (a b : α) : (a :: (l ++ [b])).Perm (l ++ [a, b]) := E7 fun p => by simp only [List.countP_append, List.countP_cons, List.countP_nil]; omega
theorem dz6 {α : Type} [El α] {A : Option Addr} {p : List α} {ca lo hi : Nat} {w : World} (h : (Row A (rows p)).P w) (hc : p.length ≤ ca) : (Row (cutA A ca lo (El.sz α)) (rows ((p.take hi).drop lo))).P w := by
  refine cut_row h (fun j u hj => ?_) (fun hne => ?_)
  · rw [← lP, ← gG, List.getElem?_drop, List.getElem?_take] at hj
    split at hj
    · exact hj
    cases hj
  rcases Nat.lt_or_ge lo p.length with h | h
  · omega
  have : (p.take hi).drop lo = [] := List.drop_eq_nil_of_le (by rw [List.length_take]; omega); rw [this] at hne; exact absurd rfl hne
theorem wi_cut {α : Type} [El α] {b : Bx} {hp : Hp} {L : List Fact} {A : Option Addr} {p : List α} {ca : Nat} {w : World} (lo hi : Nat) (h : Row A (rows p) ∈ L) (hc : p.length ≤ ca) (hw : WI b w hp L) : WI b w hp (Row (cutA A ca lo (El.sz α)) (rows ((p.take hi).drop lo)) :: L) :=
  S6 hw (dz6 (hw.fs _ h) hc) (fun k hk => ⟨_, h, by
    obtain ⟨ad, e, hb⟩ := cut_fp hk; refine ⟨ad, e, hb, ?_⟩; obtain ⟨_, _, _, hne⟩ := hk; rintro h0
    apply hne
    rw [← lP, ← gG, h0]
    simp⟩)
section
variable {c : Cx} {Q : Exit → Act → World → Prop} {fr : Fr} {hp : Hp} {L : List Fact} {ops : Array Oper} {rest : List Oper}
theorem az7 {e : TypeId} {sz n cap : Nat} {A : Option Addr} {xs : List Value} {og : Hp} {x : Exit} (hG : Grow e sz A n cap xs og) (k : HQ c Q x fr [] (Row A xs :: L)) : HQ c Q x fr og L := fun a w ha hw => k a w ha (jE hG (by simpa using hw))
theorem yK {α : Type} [El α] {A : Option Addr} {p : List α} {ca : Nat} (lo hi : Nat) (h : Row A (rows p) ∈ L) (hc : p.length ≤ ca) (k : HL c ops Q rest fr hp (Row (cutA A ca lo (El.sz α)) (rows ((p.take hi).drop lo)) :: L)) : HL c ops Q rest fr hp L :=
  fun a w ha hw => k a w ha (wi_cut lo hi h hc hw)
end
/-! ### The rules -/
def MapAt (b : Bx) (hp : Hp) (L : List Fact) (g : Nat) (o : Obj) : Prop := ∀ w, WI b w hp L → w.heap[g]? = some o
section
variable {κ : Type} [DecidableEq κ] {enc : κ → Value} {kt e : TypeId}
theorem P1 {b : Bx} {hp : Hp} {L : List Fact} {g : Nat} {o : Obj} (h : (g, o) ∈ hp) : MapAt b hp L g o := fun w hw => hw.own _ h
variable {c : Cx} {Q : Exit → Act → World → Prop} {fr : Fr} {hp : Hp} {L : List Fact} {ops : Array Oper} {rest : List Oper}
variable {d : Tmp} {ty : TypeId} {pos : String} {af : Array Edge}
theorem O7 {P : Program} {t : TypeId} (K : KeyC P kt enc) (ht : P.underlying t = some (.map kt e)) {g : Nat} {l : List (Ment κ)} {clk : Nat} {k : κ} {w : World} (hb : w.heap[g]? = some (mapO enc l clk)) (ok : Bool) :
    ((getM l k).isSome = true → (Instr.lookup t (.map (some g)) (enc k) ok).run P w = .ok (if ok then .tuple #[(getM l k).getD undef, .bool true] else (getM l k).getD undef) w) ∧
    ∀ z, (zeroValue e).run P w = .ok z w → getM l k = none → (Instr.lookup t (.map (some g)) (enc k) ok).run P w = .ok (if ok then .tuple #[z, .bool false] else z) w := by
  have hf := K.find k l w; have hc := fun b => K.chk b k w; unfold getM
  cases hr : findM k l 0 with
  | none =>
    rw [hr] at hf; refine ⟨fun h => by simp at h, fun z hz _ => ?_⟩
    simp [Instr.lookup, run_underlying ht, MapKept.run_getObj_map (show w.heap[g]? = some (.map _ _) from hb), hc, hf, hz]
  | some p =>
    obtain ⟨i, v⟩ := p; rw [hr] at hf; refine ⟨fun _ => ?_, fun z hz h => by simp at h⟩
    simp [Instr.lookup, run_underlying ht, MapKept.run_getObj_map (show w.heap[g]? = some (.map _ _) from hb), hc, hf]
theorem xY {t : TypeId} {x y : Operand} {g : Nat} {l : List (Ment κ)} {clk : Nat} {k : κ} {v : Value} (K : KeyC c.P kt enc) (hd : Nat.blt d c.n = true) (ht : c.P.underlying t = some (.map kt e)) (hx : ev fr x = some (.map (some g))) (hy : ev fr y = some (enc k)) (hm : MapAt c.b hp L g (mapO enc l clk))
    (hv : getM l k = some v) (kk : HL c ops Q rest ((d, v) :: fr) hp L) : HL c ops Q (⟨some d, .lookup t x y false, ty, pos, af, none⟩ :: rest) fr hp L :=
  u0 _ rfl rfl hd (fun a w ha hw => by
    have := (O7 (k := k) K ht (hm w hw) false).1 (by simp [hv]); simp only [hv, Option.getD_some, Bool.false_eq_true, if_false] at this
    simp only [execOp, ha.ev hx, ha.ev hy, Sem.run_bind, this, Result.andThen_ok, Sem.run_pure]) kk
theorem r_look0 {t : TypeId} {x y : Operand} {g : Nat} {l : List (Ment κ)} {clk : Nat} {k : κ} {z : Value} (K : KeyC c.P kt enc) (hd : Nat.blt d c.n = true) (ht : c.P.underlying t = some (.map kt e)) (hx : ev fr x = some (.map (some g))) (hy : ev fr y = some (enc k)) (hm : MapAt c.b hp L g (mapO enc l clk))
    (hz : ∀ w, (zeroValue e).run c.P w = .ok z w) (hv : getM l k = none) (kk : HL c ops Q rest ((d, z) :: fr) hp L) : HL c ops Q (⟨some d, .lookup t x y false, ty, pos, af, none⟩ :: rest) fr hp L :=
  u0 _ rfl rfl hd (fun a w ha hw => by
    have := (O7 (k := k) K ht (hm w hw) false).2 z (hz w) hv; simp only [Bool.false_eq_true, if_false] at this
    simp only [execOp, ha.ev hx, ha.ev hy, Sem.run_bind, this, Result.andThen_ok, Sem.run_pure]) kk
theorem cx7 {t : TypeId} {x y : Operand} {g : Nat} {l : List (Ment κ)} {clk : Nat} {k : κ} {v : Value} (K : KeyC c.P kt enc) (hd : Nat.blt d c.n = true) (ht : c.P.underlying t = some (.map kt e)) (hx : ev fr x = some (.map (some g))) (hy : ev fr y = some (enc k)) (hm : MapAt c.b hp L g (mapO enc l clk))
    (hv : getM l k = some v) (kk : HL c ops Q rest ((d, .tuple #[v, .bool true]) :: fr) hp L) : HL c ops Q (⟨some d, .lookup t x y true, ty, pos, af, none⟩ :: rest) fr hp L :=
  u0 _ rfl rfl hd (fun a w ha hw => by
    have := (O7 (k := k) K ht (hm w hw) true).1 (by simp [hv]); simp only [hv, Option.getD_some, if_true] at this
    simp only [execOp, ha.ev hx, ha.ev hy, Sem.run_bind, this, Result.andThen_ok, Sem.run_pure]) kk
theorem ax5 {t : TypeId} {x y : Operand} {g : Nat} {l : List (Ment κ)} {clk : Nat} {k : κ} {z : Value} (K : KeyC c.P kt enc) (hd : Nat.blt d c.n = true) (ht : c.P.underlying t = some (.map kt e)) (hx : ev fr x = some (.map (some g))) (hy : ev fr y = some (enc k)) (hm : MapAt c.b hp L g (mapO enc l clk))
    (hz : ∀ w, (zeroValue e).run c.P w = .ok z w) (hv : getM l k = none) (kk : HL c ops Q rest ((d, .tuple #[z, .bool false]) :: fr) hp L) : HL c ops Q (⟨some d, .lookup t x y true, ty, pos, af, none⟩ :: rest) fr hp L :=
  u0 _ rfl rfl hd (fun a w ha hw => by
    have := (O7 (k := k) K ht (hm w hw) true).2 z (hz w) hv; simp only [if_true] at this
    simp only [execOp, ha.ev hx, ha.ev hy, Sem.run_bind, this, Result.andThen_ok, Sem.run_pure]) kk
theorem rK {k : κ} : ∀ (l : List (Ment κ)) (i j : Nat) (v : Value), findM k l i = some (j, v) → ∃ m p, j = i + m ∧ l[m]? = some p ∧ p.1 = k ∧ p.2.1 = v
  | [], i, j, v, h => by simp [findM] at h
  | p :: l, i, j, v, h => by
    rw [findM] at h
    split at h
    · rename_i e
      simp only [Option.some.injEq, Prod.mk.injEq] at h; exact ⟨0, p, by omega, rfl, e, h.2⟩
    obtain ⟨m, q, h1, h2, h3⟩ := rK l (i + 1) j v h; exact ⟨m + 1, q, by omega, by simpa using h2, h3⟩
omit [DecidableEq κ] in
theorem qV {l : List (Ment κ)} {i : Nat} {k : κ} {v : Value} {p : Ment κ} (hp : l[i]? = some p) :
    ((l.map (entOf enc)).toArray.modify i fun x => { x with key := enc k, val := v }) = ((l.modify i fun p => (k, v, p.2.2)).map (entOf enc)).toArray := by
  apply Array.ext'
  simp only [Array.toList_modify]
  apply List.ext_getElem?
  intro n; simp only [List.getElem?_modify, List.getElem?_map]
  split
  · cases hl : l[n]? <;> simp [entOf]
  simp
theorem X2 {t : TypeId} {x y z : Operand} {g : Nat} {l : List (Ment κ)} {clk : Nat} {k : κ} {v : Value} {hp' : Hp} {o : Op} (K : KeyC c.P kt enc) (ho : o = .mapUpdate t x y z ∨ o = .insert t x y z) (ht : c.P.underlying t = some (.map kt e)) (hx : ev fr x = some (.map (some g))) (hy : ev fr y = some (enc k)) (hz : ev fr z = some v)
    (hpp : hp.Perm ((g, mapO enc l clk) :: hp')) (kk : HL c ops Q rest fr ((g, mapO enc (putM l k v clk) (clkM l k clk)) :: hp') L) : HL c ops Q (⟨none, o, ty, pos, af, none⟩ :: rest) fr hp L :=
  tU rfl rfl fun a w ha hw => by
    have hw' := hw.perm hpp; have hg := hw'.own (g, mapO enc l clk) (by simp); have hg' : w.heap[g]? = some (.map (l.map (entOf enc)).toArray clk) := hg; have hf := K.find k l w
    have hrun : (Instr.mapUpdate t (.map (some g)) (enc k) v).run c.P w = .ok () { w with heap := w.heap.setIfInBounds g (mapO enc (putM l k v clk) (clkM l k clk)) } := by
      unfold putM clkM
      cases hr : findM k l 0 with
      | none =>
        rw [hr] at hf; simp only [Instr.mapUpdate, Sem.run_bind, run_underlying ht, Result.andThen_ok, MapKept.run_getObj_map hg', K.chk, hf, MapKept.run_setObj_map _ hg']
        have : ((l.map (entOf enc)).toArray.push { key := enc k, val := v, born := clk }) = ((l ++ [(k, v, clk)]).map (entOf enc)).toArray := by
          apply Array.ext'; simp [entOf]
        rw [this]
        rfl
      | some p =>
        obtain ⟨i, u⟩ := p; rw [hr] at hf; obtain ⟨m, q, h1, h2, h3, h4⟩ := rK l 0 i u hr; have e1 : i = m := by omega
        subst e1
        have e2 : (((l.map (entOf enc)).toArray[i]?).map (·.key)).getD (enc k) = enc k := by
          simp [h2, entOf, h3]
        simp only [Instr.mapUpdate, Sem.run_bind, run_underlying ht, Result.andThen_ok, MapKept.run_getObj_map hg', K.chk, hf, e2, K.stays, MapKept.run_setObj_map _ hg', qV h2]
        rfl
    refine ⟨{ w with heap := w.heap.setIfInBounds g (mapO enc (putM l k v clk) (clkM l k clk)) }, _, L, ?_, hw'.write (o' := mapO enc (putM l k v clk) (clkM l k clk)) ⟨rfl, rfl, rfl, by simp, fun j hj hn => by simp only [List.mem_singleton] at hn; simp [Array.getElem?_setIfInBounds_ne (Ne.symm hn)], Nat.le_refl _⟩ ?_, kk⟩
    · rcases ho with rfl | rfl <;> simp only [execOp, ha.ev hx, ha.ev hy, ha.ev hz, Sem.run_bind, hrun, Result.andThen_ok, Sem.run_pure]
    have := D1 hg; simp only at this
    simp [this]
omit [DecidableEq κ] in
theorem cD (enc : κ → Value) {t : TypeId} (hd : Nat.blt d c.n = true) (k : ∀ g, HL c ops Q rest ((d, .map (some g)) :: fr) ((g, mapO enc [] 0) :: hp) L) : HL c ops Q (⟨some d, .makeMap t none, ty, pos, af, none⟩ :: rest) fr hp L :=
  ax3 hd k
theorem Z1 {k : κ} : ∀ (l : List (Ment κ)) (i : Nat), findM k l (i + 1) = (findM k l i).map fun p => (p.1 + 1, p.2)
  | [], i => rfl
  | p :: l, i => by
    simp only [findM]
    split
    · rfl
    exact Z1 l (i + 1)
theorem W8 (p : Ment κ) (l : List (Ment κ)) (k : κ) : getM (p :: l) k = if p.1 = k then some p.2.1 else getM l k := by
  unfold getM; simp only [findM]
  split
  · rfl
  rw [Z1]; cases findM k l 0 <;> rfl
theorem dq5 (l : List (Ment κ)) (k k' : κ) (v : Value) (clk : Nat) : getM (putM l k v clk) k' = if k = k' then some v else getM l k' := by
  induction l with
  | nil => simp [putM, findM, W8, getM]
  | cons p l ih =>
    by_cases h : p.1 = k
    · have : putM (p :: l) k v clk = (k, v, p.2.2) :: l := by simp [putM, findM, h]
      rw [this, W8, W8]; simp only [h]
      split <;> rfl
    have : putM (p :: l) k v clk = p :: putM l k v clk := by
      simp only [putM, findM, h, if_false]; rw [Z1]
      cases hf : findM k l 0 with
      | none => simp
      | some q => simp
    rw [this, W8, ih, W8]
    split
    · rename_i e
      rw [if_neg (fun e' => h (e.trans e'.symm))]
    rfl
end
end Go.W
end
section
namespace Go.W
open Go Go.RowKit
section
variable {c : Cx} {fr : Fr} {hp : Hp} {L : List Fact}
theorem jO {β : Type} {k : Con β} {fn : Func} {w0 : World} (x : β) {t : Tmp} {ty e : TypeId} {g n : Nat} {cs : Array Value} {fz : Nat × Nat} (hres : fn.results = #[.cell t ty]) (hv : lk fr t = some (.pointer (n9 g))) (ht : IsR c.P ty) (hz : Sz c.P ty n) (hn : cs.size = n)
    (hm : (g, Obj.cells cs e fz) ∈ hp) (hk : k.val x = .agg cs) (hb : c.b = k.entry w0) (hi : k.inv x) (h2 : (k.hpO x).Sublist hp) (h3 : LSub L (k.LO x)) (hD : c.D = [] := by rfl) : HQ c (bodyPost c.P fn (k.post w0)) .ret fr hp L :=
  pS x (fun a w ha hw => by
    obtain ⟨dd, ht, hr⟩ := ht; have h1 := hw.own _ hm; simp only at h1
    have hl : (loadVar ty ⟨g, 0, none⟩).run c.P w = .ok (.agg cs) w := by
      have hagg : (isAgg ty).run c.P w = .ok true w := by
        unfold isAgg; rw [Sem.run_bind, run_underlying ht w]
        cases dd <;> simp_all [TypeDesc.isRow]
      have hc := run_loadCells_list (P := c.P) w ⟨g, 0, none⟩ cs.toList (fun j u hu => by rw [gD, Nat.zero_add]; simp at hu; simp [World.cell?, h1, hu]); have hs := S7 hz w; simp only [loadVar, Sem.run_bind, hagg, Result.andThen_ok, if_true, hs, ← hn]; have e : cs.size = cs.toList.length := by simp
      rw [e, hc]
      simp
    have hv' := ha.at_ _ _ hv; rw [hk]; unfold results; rw [hres]; have hv2 : a.tmps[t]?.getD undef = .pointer (n9 g) := by simpa using hv'
    simp [hv2, asAddr, hl]) hb hi h2 h3 hD
theorem G0 {β : Type} {k : Con β} {fn : Func} {w0 : World} (x : β) {t u : Tmp} {ty e : TypeId} {g n : Nat} {cs : Array Value} {fz : Nat × Nat} {v2 : Value} (hres : fn.results = #[.cell t ty, .tmp u]) (hv : lk fr t = some (.pointer (n9 g))) (hv2 : lk fr u = some v2) (ht : IsR c.P ty) (hz : Sz c.P ty n) (hn : cs.size = n)
    (hm : (g, Obj.cells cs e fz) ∈ hp) (hk : k.val x = .tuple #[.agg cs, v2]) (hb : c.b = k.entry w0) (hi : k.inv x) (h2 : (k.hpO x).Sublist hp) (h3 : LSub L (k.LO x)) (hD : c.D = [] := by rfl) : HQ c (bodyPost c.P fn (k.post w0)) .ret fr hp L :=
  pS x (fun a w ha hw => by
    obtain ⟨dd, ht, hr⟩ := ht; have h1 := hw.own _ hm; simp only at h1
    have hl : (loadVar ty ⟨g, 0, none⟩).run c.P w = .ok (.agg cs) w := by
      have hagg : (isAgg ty).run c.P w = .ok true w := by
        unfold isAgg; rw [Sem.run_bind, run_underlying ht w]
        cases dd <;> simp_all [TypeDesc.isRow]
      have hc := run_loadCells_list (P := c.P) w ⟨g, 0, none⟩ cs.toList (fun j u hu => by rw [gD, Nat.zero_add]; simp at hu; simp [World.cell?, h1, hu]); have hs := S7 hz w; simp only [loadVar, Sem.run_bind, hagg, Result.andThen_ok, if_true, hs, ← hn]; have e : cs.size = cs.toList.length := by simp
      rw [e, hc]
      simp
    have hv' := ha.at_ _ _ hv; have hv2' := ha.at_ _ _ hv2; rw [hk]; unfold results; rw [hres]; have h5 : a.tmps[t]?.getD undef = .pointer (n9 g) := by simpa using hv'
    have h6 : a.tmps[u]?.getD undef = v2 := by simpa using hv2'
    simp [h5, h6, asAddr, hl]) hb hi h2 h3 hD
end
section
variable {c : Cx} {Q : Exit → Act → World → Prop} {fr : Fr} {hp : Hp} {L : List Fact} {ops : Array Oper} {rest : List Oper}
variable {d : Tmp} {ty : TypeId} {pos : String} {af : Array Edge}
theorem D5 {t e : TypeId} {x : Operand} {g : Nat} {cs : Array Value} {fz : Nat × Nat} {n : Nat} (hd : Nat.blt d c.n = true) (ht' : IsR c.P t) (hz' : Sz c.P t n) (hx : ev fr x = some (.pointer (n9 g))) (h : Blk g (Obj.cells cs e fz) ∈ L) (hn : cs.size = n)
    (k : HL c ops Q rest ((d, .agg cs) :: fr) hp L) : HL c ops Q (⟨some d, .load t x, ty, pos, af, none⟩ :: rest) fr hp L :=
  v8 (cs := cs.toList) hd ht' hz' hx (by simpa using hn) (bq7 h (fun i u hu => by simpa using hu)) k
theorem hC {t e : TypeId} {x y : Operand} {sz bytes n m cp : Nat} {A B : Option Addr} {olds news : List Value} (n' : Nat) (xs' : List Value) (el : ElT c.P t e sz bytes) (hd : Nat.blt d c.n = true)
    (hx : ev fr x = some (.slice A n n)) (hy : ev fr y = some (.slice B m cp)) (hA : Row A olds ∈ L) (hlo : olds.length = n * sz) (hs : Src c.b hp L B m sz news) (hn' : n + m = n') (hxs : olds ++ news = xs') (hn : n' ≤ maxLen) (hby : n' * bytes ≤ 140737488355328)
    (k : ∀ A' cap', n' ≤ cap' → HL c ops Q rest ((d, .slice A' n' cap') :: fr) hp (Row A' xs' :: L)) :
    HL c ops Q (⟨some d, .call ⟨.builtin .append, #[x, y], #[t, t]⟩, ty, pos, af, none⟩ :: rest) fr hp L :=
  iJ rfl rfl hd fun a w ha hw => by
    subst hn'; subst hxs; obtain ⟨i, z, hi, hz, hsz, hb, hzs⟩ := el.i; have hrow := hw.fs _ hA
    have hgs : Go.Src c.P i.size t (.slice B m cp) m news w := by
      rcases hs.2.2 with ⟨rfl, rfl⟩ | h
      · have : news = [] := List.eq_nil_of_length_eq_zero (by simpa using hs.1)
        subst this; exact Go.Src.ofNil w el.u cp
      obtain ⟨ad, rfl, hc⟩ := h w hw; exact Go.Src.ofSlice w el.u ad m cp news (by rw [hsz]; exact hs.1) hc hs.2.1
    by_cases hm : m = 0
    · subst hm
      have : news = [] := List.eq_nil_of_length_eq_zero (by simpa using hs.1); subst this; refine ⟨.slice A n n, w, hp, Row A (olds ++ []) :: L, ?_, hw.weak (.refl _) ?_ |>.add (by simpa using hrow) (fun p hp => by simpa using hw.ap _ hA p hp) (fun k hk => hw.al _ hA k (by simpa using hk)), k A n (Nat.le_refl _)⟩
      · have := run_append_nothing w t t ty e i el.u hi A n n (Nat.le_refl _) (.slice B 0 cp) hgs
        simp only [execOp, resolve, invoke, builtin, Sem.run_bind, Sem.run_pure, Result.andThen_ok, List.map_toArray, List.map_cons, List.map_nil, ha.ev hx, ha.ev hy, this]
      exact fun _ h => h
    have hold : (Builtin.firstCells i.size n (.slice A n n)).run c.P w.drew = .ok olds.toArray w.drew := by
      cases A with
      | none =>
        have : olds = [] := by
          cases olds with
          | nil => rfl
          | cons u r => obtain ⟨ad, e, _⟩ := hrow 0 u rfl; cases e
        subst this
        have hn0 : n = 0 := by
          have := el.pos; simp only [List.length_nil] at hlo
          rcases Nat.eq_zero_or_pos n with h | h
          · exact h
          have := Nat.mul_pos h this; omega
        subst hn0; exact run_firstCells_none _ _ _ _ _
      | some ad => exact run_firstCells_some _ _ _ _ _ _ olds (by rw [hsz]; exact hlo) (fun j u hu => by
          obtain ⟨ad', e, hc⟩ := hrow j u hu
          cases e
          simpa using hc)
    have hrun := run_append_grow_src w t t ty e i z el.u hi hz A n n olds hold (.slice B m cp) m news hgs (by omega) (by unfold maxLen at hn; omega) (growslice_fits (by omega) (by rw [hb]; exact hby)); have h2 := (hw.quiet (lD w)).alloc (.cells ((olds ++ news).toArray ++ Builtin.zeroCells z.cells (grownCap w (n + m) n e - (n + m))) e (0, 0)); refine ⟨_, w.drew.alloc (.cells ((olds ++ news).toArray ++ Builtin.zeroCells z.cells (grownCap w (n + m) n e - (n + m))) e), hp, Row (some ⟨w.heap.size, 0, none⟩) (olds ++ news) :: L, ?_, jD h2 ?_, k (some ⟨w.heap.size, 0, none⟩) (grownCap w (n + m) n e) (grownCap_ge w (n + m) n e)⟩
    · simp only [execOp, resolve, invoke, builtin, Sem.run_bind, Sem.run_pure, Result.andThen_ok, List.map_toArray, List.map_cons, List.map_nil, ha.ev hx, ha.ev hy, hrun]
    exact ⟨(Builtin.zeroCells z.cells (grownCap w (n + m) n e - (n + m))).toList, by simp⟩
end
section
variable {κ : Type} [DecidableEq κ] {enc : κ → Value} {kt e : TypeId}
variable {c : Cx} {Q : Exit → Act → World → Prop} {fr : Fr} {hp : Hp} {L : List Fact} {ops : Array Oper} {rest : List Oper}
variable {d : Tmp} {ty : TypeId} {pos : String} {af : Array Edge}
theorem ax4 {t : TypeId} {x y : Operand} {g : Nat} {l : List (Ment κ)} {clk : Nat} {k : κ} (z v : Value) (b : Bool) (K : KeyC c.P kt enc) (hd : Nat.blt d c.n = true) (ht : c.P.underlying t = some (.map kt e)) (hx : ev fr x = some (.map (some g))) (hy : ev fr y = some (enc k)) (hm : MapAt c.b hp L g (mapO enc l clk))
    (hz : ∀ w, (zeroValue e).run c.P w = .ok z w) (hv : (getM l k).getD z = v) (hb : (getM l k).isSome = b) (kk : HL c ops Q rest ((d, .tuple #[v, .bool b]) :: fr) hp L) : HL c ops Q (⟨some d, .lookup t x y true, ty, pos, af, none⟩ :: rest) fr hp L := by
  subst hv; subst hb
  cases hg : getM l k with
  | none => rw [hg] at kk; exact ax5 K hd ht hx hy hm hz hg kk
  | some u => rw [hg] at kk; exact cx7 K hd ht hx hy hm hg kk
theorem cz3 {l : List (Ment κ)} {k : κ} {v : Value} {clk : Nat} {p : Ment κ} (h : p ∈ putM l k v clk) : (p.1 = k ∧ p.2.1 = v) ∨ p ∈ l := by
  unfold putM at h
  cases hf : findM k l 0 with
  | none =>
    rw [hf] at h
    rcases List.mem_append.1 h with h | h
    · exact .inr h
    simp at h; subst h; exact .inl ⟨rfl, rfl⟩
  | some q =>
    obtain ⟨i, u⟩ := q; rw [hf] at h; simp only at h; obtain ⟨n, hn⟩ := List.getElem?_of_mem h; rw [List.getElem?_modify] at hn
    cases hl : l[n]? with
    | none => rw [hl] at hn; cases hn
    | some r =>
      rw [hl] at hn; simp only [Option.map_eq_map, Option.map_some, Option.some.injEq] at hn
      split at hn
      · subst hn; exact .inl ⟨rfl, rfl⟩
      subst hn; exact .inr (List.mem_of_getElem? hl)
theorem vS {l : List (Ment κ)} {k : κ} {v : Value} (h : getM l k = some v) : ∃ p ∈ l, p.1 = k ∧ p.2.1 = v := by
  unfold getM at h
  cases hf : findM k l 0 with
  | none => rw [hf] at h; cases h
  | some q =>
    obtain ⟨i, u⟩ := q; rw [hf] at h; simp only [Option.map_some, Option.some.injEq] at h; subst h; obtain ⟨m, p, _, h2, h3, h4⟩ := rK l 0 i u hf; exact ⟨p, List.mem_of_getElem? h2, h3, h4⟩
end
theorem tL {α : Type} {l' : List α} : ∀ {l : List α}, (∀ p : α → Bool, l'.countP p ≤ l.countP p) → ∃ r, l.Perm (l' ++ r) := by
  classical
  induction l' with
  | nil => intro l _; exact ⟨l, .refl _⟩
  | cons a t ih =>
    intro l h; have h1 := h (fun x => decide (x = a)); rw [List.countP_cons_of_pos (by simp)] at h1
    have ha : a ∈ l := by
      have : 0 < l.countP (fun x => decide (x = a)) := by omega
      obtain ⟨x, hx, e⟩ := List.countP_pos_iff.1 this
      simp at e
      exact e ▸ hx
    have hp := List.perm_cons_erase ha
    obtain ⟨r, hr⟩ := ih (l := l.erase a) (fun p => by
      have h2 := h p; have h3 := hp.countP_eq p; rw [List.countP_cons] at h2 h3
      omega)
    exact ⟨r, hp.trans (hr.cons a)⟩
theorem WI.count {b : Bx} {w : World} {hp hp' : Hp} {L L' : List Fact} (h : WI b w hp L) (hc : ∀ p : Nat × Obj → Bool, hp'.countP p ≤ hp.countP p) (h2 : ∀ F ∈ L', F ∈ L) : WI b w hp' L' := by
  obtain ⟨r, hr⟩ := tL hc; exact (h.perm hr).weak (List.sublist_append_left _ _) h2
section
variable {c : Cx} {Q : Exit → Act → World → Prop} {fr : Fr} {hp : Hp} {L : List Fact} {ops : Array Oper} {rest : List Oper}
theorem dZ {β : Type} (s : Sta β) (z : β) (hz : s.inv z) (h1 : FrSub fr (s.fr z)) (h2 : ∀ p : Nat × Obj → Bool, (s.hp z).countP p ≤ hp.countP p) (h3 : LSub L (s.L z)) : HQ c (Exit.then (s.holds c) Q) .normal fr hp L :=
  fun _ _ ha hw => ⟨z, hz, ha.sub h1, hw.count h2 h3.mem⟩
end
section
variable {c : Cx} {Q : Exit → Act → World → Prop} {fr : Fr} {hp : Hp} {L : List Fact} {ops : Array Oper} {rest : List Oper}
theorem aj5 {b : Bx} {w : World} {g : Nat} {o : Obj} (h : WI b w ((g, o) :: hp) L) : WI b w hp (Blk g o :: L) := h.letgo (h.own (g, o) (by simp)) (fun k hk => hk)
theorem R3 {g : Nat} {o : Obj} {x : Code} (k : HC c x Q fr hp (Blk g o :: L)) : HC c x Q fr ((g, o) :: hp) L := fun a w ha hw => k a w ha (aj5 hw)
end
def Facts (Fs : List Fact) : Fact where
  P w := ∀ F ∈ Fs, F.P w
  fp k := ∃ F ∈ Fs, F.fp k
  st w w' h hP F hF := F.st w w' (fun k hk => h k ⟨F, hF, hk⟩) (hP F hF)
  lt w hP k hk := by obtain ⟨F, hF, hk⟩ := hk; exact F.lt w (hP F hF) k hk
section
variable {c : Cx} {Q : Exit → Act → World → Prop} {fr : Fr} {hp : Hp} {L : List Fact} {ops : Array Oper} {rest : List Oper}
theorem zI {b : Bx} {w : World} {Fs : List Fact} {F : Fact} (h : Facts Fs ∈ L) (hF : F ∈ Fs) (hw : WI b w hp L) : WI b w hp (F :: L) := S6 hw (hw.fs _ h F hF) (fun k hk => ⟨_, h, F, hF, hk⟩)
theorem tV {Fs : List Fact} {F : Fact} (h : Facts Fs ∈ L) (hF : F ∈ Fs) (k : HL c ops Q rest fr hp (F :: L)) : HL c ops Q rest fr hp L := fun a w ha hw => k a w ha (zI h hF hw)
theorem hq_pick {Fs : List Fact} {F : Fact} {x : Exit} (h : Facts Fs ∈ L) (hF : F ∈ Fs) (k : HQ c Q x fr hp (F :: L)) : HQ c Q x fr hp L := fun a w ha hw => k a w ha (zI h hF hw)
theorem qA {b : Bx} {w : World} {Fs : List Fact} (h : ∀ F ∈ Fs, F ∈ L ∨ ∃ Gs, Facts Gs ∈ L ∧ F ∈ Gs) (hw : WI b w hp L) : WI b w hp (Facts Fs :: L) :=
  S6 hw (fun F hF => by
    rcases h F hF with h1 | ⟨Gs, h1, h2⟩
    · exact hw.fs _ h1
    · exact hw.fs _ h1 F h2) (fun k hk => by
    obtain ⟨F, hF, hk⟩ := hk
    rcases h F hF with h1 | ⟨Gs, h1, h2⟩
    · exact ⟨F, h1, hk⟩
    exact ⟨_, h1, F, h2, hk⟩)
theorem dq2 {Fs : List Fact} (h : ∀ F ∈ Fs, F ∈ L ∨ ∃ Gs, Facts Gs ∈ L ∧ F ∈ Gs) (k : HL c ops Q rest fr hp (Facts Fs :: L)) : HL c ops Q rest fr hp L := fun a w ha hw => k a w ha (qA h hw)
theorem dq3 {Fs : List Fact} {x : Code} (h : ∀ F ∈ Fs, F ∈ L ∨ ∃ Gs, Facts Gs ∈ L ∧ F ∈ Gs) (k : HC c x Q fr hp (Facts Fs :: L)) : HC c x Q fr hp L := fun a w ha hw => k a w ha (qA h hw)
theorem dP {Fs : List Fact} {x : Exit} (h : ∀ F ∈ Fs, F ∈ L ∨ ∃ Gs, Facts Gs ∈ L ∧ F ∈ Gs) (k : HQ c Q x fr hp (Facts Fs :: L)) : HQ c Q x fr hp L := fun a w ha hw => k a w ha (qA h hw)
end
section
variable {c : Cx} {Q : Exit → Act → World → Prop} {fr : Fr} {hp : Hp} {L : List Fact} {ops : Array Oper} {rest : List Oper}
theorem sI {e : Exit} {α : Type} [El α] (k : HQ c Q e fr hp (Row none (rows ([] : List α)) :: L)) : HQ c Q e fr hp L := zX (F := Row none (rows ([] : List α))) (fun w _ => Row.nil _ w) (fun k hk => by obtain ⟨_, e, _⟩ := hk; cases e) k
theorem lZ {α : Type} [El α] (k : HL c ops Q rest fr hp (Row none (rows ([] : List α)) :: L)) : HL c ops Q rest fr hp L := zY (F := Row none (rows ([] : List α))) (fun w _ => Row.nil _ w) (fun k hk => by obtain ⟨_, e, _⟩ := hk; cases e) k
theorem pV {e : Exit} (k : HQ c Q e fr hp (Row none [] :: L)) : HQ c Q e fr hp L := zX (F := Row none []) (fun w _ => Row.nil _ w) (fun k hk => by obtain ⟨_, e, _⟩ := hk; cases e) k
end
end Go.W
end
