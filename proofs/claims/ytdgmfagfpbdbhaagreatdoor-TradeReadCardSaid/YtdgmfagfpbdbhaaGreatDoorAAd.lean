/- Texts. -/
import Derived.Test.YtdgmfagfpbdbhaaGreatDoorProg
import Derived.KernelRfl
import Derived.Laws.StructEq
import Derived.Laws.IdiomStrings
import Derived.MapKept
import Derived.Test.YtdgmfagfpbdbhaaGreatDoorAAc
set_option linter.unusedVariables false
set_option linter.unusedSimpArgs false
section
namespace Go.Proofs.YtdgmfagfpbdbhaaGreatDoor
open Go Go.W Tryz
theorem mixed : prog.follows .mixedOrders = true := m9
namespace F
abbrev gq7 : Nat := 3
abbrev jJ : Nat := 4
theorem rI : prog.funcs[jJ]? = some f4 := func4
abbrev lz0 : Nat := 5
abbrev dN : Nat := 6
theorem uF : prog.funcs[dN]? = some f6 := func6
theorem X9 : Callable prog dN := B9 func6
abbrev gQ : Nat := 7
theorem wH : prog.funcs[gQ]? = some f7 := func7
theorem uG : Callable prog gQ := B9 func7
abbrev jL : Nat := 8
theorem yH : prog.funcs[jL]? = some f8 := func8
theorem wI : Callable prog jL := B9 func8
abbrev jE : Nat := 9
theorem xW : prog.funcs[jE]? = some f9 := func9
theorem kE : Callable prog jE := B9 func9
abbrev lx8 : Nat := 10
abbrev lz1 : Nat := 11
abbrev R9 : Nat := 12
theorem gL : prog.funcs[R9]? = some f12 := func12
theorem mD : Callable prog R9 := B9 func12
abbrev mq0 : Nat := 13
abbrev gR : Nat := 14
theorem wJ : prog.funcs[gR]? = some f14 := func14
theorem uH : Callable prog gR := B9 func14
abbrev cE : Nat := 15
theorem xY : prog.funcs[cE]? = some f15 := func15
theorem vZ : Callable prog cE := B9 func15
abbrev jH : Nat := 16
theorem yE : prog.funcs[jH]? = some f16 := func16
theorem I7 : Callable prog jH := B9 func16
abbrev Z7 : Nat := 17
theorem wB : prog.funcs[Z7]? = some f17 := func17
theorem tY : Callable prog Z7 := B9 func17
abbrev dU : Nat := 18
theorem zK : prog.funcs[dU]? = some f18 := func18
theorem xZ : Callable prog dU := B9 func18
abbrev iJ : Nat := 19
theorem ax9 : prog.funcs[iJ]? = some f19 := func19
theorem zJ : Callable prog iJ := B9 func19
abbrev cD : Nat := 20
theorem xX : prog.funcs[cD]? = some f20 := func20
theorem vY : Callable prog cD := B9 func20
abbrev W4 : Nat := 21
theorem tZ : prog.funcs[W4]? = some f21 := func21
theorem sR : Callable prog W4 := B9 func21
abbrev jI : Nat := 22
theorem yF : prog.funcs[jI]? = some f22 := func22
theorem wF : Callable prog jI := B9 func22
abbrev cH : Nat := 23
theorem yJ : prog.funcs[cH]? = some f23 := func23
theorem wL : Callable prog cH := B9 func23
abbrev dV : Nat := 24
theorem zN : prog.funcs[dV]? = some f24 := func24
theorem dO : Callable prog dV := B9 func24
abbrev cG : Nat := 25
theorem yI : prog.funcs[cG]? = some f25 := func25
theorem wK : Callable prog cG := B9 func25
abbrev cI : Nat := 26
theorem sV : prog.funcs[cI]? = some f26 := func26
theorem gD : Callable prog cI := B9 func26
abbrev nQ : Nat := 27
theorem az1 : prog.funcs[nQ]? = some f27 := func27
theorem nZ : Callable prog nQ := B9 func27
abbrev dQ : Nat := 28
theorem uK : prog.funcs[dQ]? = some f28 := func28
theorem iE : Callable prog dQ := B9 func28
abbrev kX : Nat := 29
theorem zL : prog.funcs[kX]? = some f29 := func29
theorem yG : Callable prog kX := B9 func29
abbrev gP : Nat := 30
theorem wG : prog.funcs[gP]? = some f30 := func30
theorem jK : Callable prog gP := B9 func30
abbrev jM : Nat := 31
theorem yK : prog.funcs[jM]? = some f31 := func31
theorem M0 : Callable prog jM := B9 func31
abbrev dP : Nat := 32
theorem uJ : prog.funcs[dP]? = some f32 := func32
theorem Y0 : Callable prog dP := B9 func32
abbrev jD : Nat := 33
theorem xV : prog.funcs[jD]? = some f33 := func33
theorem L9 : Callable prog jD := B9 func33
abbrev X2 : Nat := 34
theorem pR : prog.funcs[X2]? = some f34 := func34
theorem mY : Callable prog X2 := B9 func34
abbrev lx9 : Nat := 35
abbrev mq7 : Nat := 36
abbrev Y6 : Nat := 37
theorem nY : prog.funcs[Y6]? = some f37 := func37
theorem lS : Callable prog Y6 := B9 func37
abbrev Z6 : Nat := 38
theorem kC : prog.funcs[Z6]? = some f38 := func38
theorem jB : Callable prog Z6 := B9 func38
abbrev jC : Nat := 39
theorem xU : prog.funcs[jC]? = some f39 := func39
theorem kD : Callable prog jC := B9 func39
abbrev lx6 : Nat := 40
abbrev mj8 : Nat := 41
abbrev lx7 : Nat := 42
abbrev jx9 : Nat := 43
abbrev dI : Nat := 44
theorem tX : prog.funcs[dI]? = some f44 := func44
theorem E6 : Callable prog dI := B9 func44
abbrev U8 : Nat := 45
theorem nF : prog.funcs[U8]? = some f45 := func45
theorem bB : Callable prog U8 := B9 func45
abbrev rH : Nat := 46
theorem bj8 : prog.funcs[rH]? = some f46 := func46
theorem K6 : Callable prog rH := B9 func46
abbrev nP : Nat := 47
theorem az0 : prog.funcs[nP]? = some f47 := func47
theorem Z8 : Callable prog nP := B9 func47
abbrev nI : Nat := 48
theorem ax8 : prog.funcs[nI]? = some f48 := func48
theorem gK : Callable prog nI := B9 func48
abbrev U7 : Nat := 49
theorem nD : prog.funcs[U7]? = some f49 := func49
theorem bA : Callable prog U7 := B9 func49
abbrev aM : Nat := 50
theorem rB : prog.funcs[aM]? = some f50 := func50
theorem pW : Callable prog aM := B9 func50
abbrev bZ : Nat := 51
theorem sN : prog.funcs[bZ]? = some f51 := func51
theorem U6 : Callable prog bZ := B9 func51
abbrev X3 : Nat := 52
theorem pS : prog.funcs[X3]? = some f52 := func52
theorem nB : Callable prog X3 := B9 func52
abbrev gO : Nat := 53
theorem wD : prog.funcs[gO]? = some f53 := func53
theorem uD : Callable prog gO := B9 func53
abbrev P9 : Nat := 54
theorem jP : prog.funcs[P9]? = some f54 := func54
theorem jF : Callable prog P9 := B9 func54
abbrev Q7 : Nat := 55
theorem rF : prog.funcs[Q7]? = some f55 := func55
theorem qD : Callable prog Q7 := B9 func55
abbrev Q9 : Nat := 56
theorem kW : prog.funcs[Q9]? = some f56 := func56
theorem jS : Callable prog Q9 := B9 func56
abbrev X4 : Nat := 57
theorem pV : prog.funcs[X4]? = some f57 := func57
theorem bY : Callable prog X4 := B9 func57
abbrev V1 : Nat := 58
theorem nO : prog.funcs[V1]? = some f58 := func58
theorem mH : Callable prog V1 := B9 func58
abbrev nR : Nat := 59
theorem az2 : prog.funcs[nR]? = some f59 := func59
theorem zM : Callable prog nR := B9 func59
abbrev gW : Nat := 60
theorem wM : prog.funcs[gW]? = some f60 := func60
theorem uI : Callable prog gW := B9 func60
abbrev S3 : Nat := 61
theorem lW : prog.funcs[S3]? = some f61 := func61
theorem kS : Callable prog S3 := B9 func61
abbrev K2 : Nat := 62
theorem cF : prog.funcs[K2]? = some f62 := func62
theorem r6 : Callable prog K2 := B9 func62
abbrev O3 : Nat := 63
theorem iK : prog.funcs[O3]? = some f63 := func63
theorem gN : Callable prog O3 := B9 func63
abbrev gq6 : Nat := 64
abbrev hq7 : Nat := 65
abbrev iZ : Nat := 66
theorem xS : prog.funcs[iZ]? = some f66 := func66
theorem kB : Callable prog iZ := B9 func66
abbrev U4 : Nat := 67
theorem mX : prog.funcs[U4]? = some f67 := func67
theorem lR : Callable prog U4 := B9 func67
abbrev nS : Nat := 68
theorem pB : Callable prog nS := B9 func68
abbrev X6 : Nat := 69
theorem qB : prog.funcs[X6]? = some f69 := func69
theorem nH : Callable prog X6 := B9 func69
abbrev aP : Nat := 70
theorem rE : prog.funcs[aP]? = some f70 := func70
theorem qA : Callable prog aP := B9 func70
abbrev mj9 : Nat := 71
abbrev lx5 : Nat := 72
abbrev U5 : Nat := 73
theorem mZ : prog.funcs[U5]? = some f73 := func73
theorem lU : Callable prog U5 := B9 func73
abbrev aL : Nat := 74
theorem rA : prog.funcs[aL]? = some f74 := func74
theorem pU : Callable prog aL := B9 func74
abbrev aN : Nat := 75
theorem rC : prog.funcs[aN]? = some f75 := func75
theorem pX : Callable prog aN := B9 func75
abbrev C8 : Nat := 76
theorem cB : prog.funcs[C8]? = some f76 := func76
theorem aZ : Callable prog C8 := B9 func76
abbrev X5 : Nat := 77
theorem pZ : prog.funcs[X5]? = some f77 := func77
theorem G7 : Callable prog X5 := B9 func77
abbrev X1 : Nat := 78
theorem pQ : prog.funcs[X1]? = some f78 := func78
theorem bX : Callable prog X1 := B9 func78
abbrev iY : Nat := 79
theorem xR : prog.funcs[iY]? = some f79 := func79
theorem vW : Callable prog iY := B9 func79
abbrev U9 : Nat := 80
theorem nL : prog.funcs[U9]? = some f80 := func80
theorem mF : Callable prog U9 := B9 func80
abbrev S2 : Nat := 81
theorem lV : prog.funcs[S2]? = some f81 := func81
theorem Y7 : Callable prog S2 := B9 func81
abbrev aO : Nat := 82
theorem rD : prog.funcs[aO]? = some f82 := func82
theorem cU : Callable prog aO := B9 func82
abbrev J1 : Nat := 83
theorem bF : prog.funcs[J1]? = some f83 := func83
theorem aQ : Callable prog J1 := B9 func83
abbrev dM : Nat := 84
theorem uE : prog.funcs[dM]? = some f84 := func84
theorem sU : Callable prog dM := B9 func84
abbrev I0 : Nat := 85
theorem Z0 : prog.funcs[I0]? = some f85 := func85
theorem Y3 : Callable prog I0 := B9 func85
abbrev aK : Nat := 86
theorem qZ : prog.funcs[aK]? = some f86 := func86
theorem pT : Callable prog aK := B9 func86
abbrev E2 : Nat := 87
theorem P8 : prog.funcs[E2]? = some f87 := func87
theorem cM : Callable prog E2 := B9 func87
abbrev dJ : Nat := 88
theorem uA : prog.funcs[dJ]? = some f88 := func88
theorem E7 : Callable prog dJ := B9 func88
abbrev H4 : Nat := 89
theorem K1 : prog.funcs[H4]? = some f89 := func89
theorem vX : Callable prog H4 := B9 func89
abbrev kR : Nat := 90
theorem zI : prog.funcs[kR]? = some f90 := func90
theorem W3 : Callable prog kR := B9 func90
abbrev mq3 : Nat := 94
abbrev kP : Nat := 95
theorem zH : prog.funcs[kP]? = some f95 := func95
theorem D5 : Callable prog kP := B9 func95
abbrev Q8 : Nat := 96
theorem kV : prog.funcs[Q8]? = some f96 := func96
theorem jR : Callable prog Q8 := B9 func96
abbrev H3 : Nat := 97
theorem lY : prog.funcs[H3]? = some f97 := func97
theorem kT : Callable prog H3 := B9 func97
abbrev Q0 : Nat := 98
theorem jQ : prog.funcs[Q0]? = some f98 := func98
theorem jG : Callable prog Q0 := B9 func98
abbrev H7 : Nat := 99
theorem nG : prog.funcs[H7]? = some f99 := func99
theorem lX : Callable prog H7 := B9 func99
abbrev W1 : Nat := 100
theorem tS : prog.funcs[W1]? = some f100 := func100
theorem sM : Callable prog W1 := B9 func100
abbrev Q6 : Nat := 101
theorem qY : prog.funcs[Q6]? = some f101 := func101
theorem cT : Callable prog Q6 := B9 func101
abbrev H9 : Nat := 102
theorem Y9 : prog.funcs[H9]? = some f102 := func102
theorem Y2 : Callable prog H9 := B9 func102
abbrev G8 : Nat := 103
theorem S7 : prog.funcs[G8]? = some f103 := func103
theorem S4 : Callable prog G8 := B9 func103
abbrev aR : Nat := 112
theorem rG : prog.funcs[aR]? = some f112 := func112
theorem qF : Callable prog aR := B9 func112
abbrev X7 : Nat := 115
theorem qC : prog.funcs[X7]? = some f115 := func115
theorem nJ : Callable prog X7 := B9 func115
abbrev jA : Nat := 116
theorem xT : prog.funcs[jA]? = some f116 := func116
theorem L8 : Callable prog jA := B9 func116
abbrev X8 : Nat := 120
theorem qE : prog.funcs[X8]? = some f120 := func120
theorem nN : Callable prog X8 := B9 func120
abbrev V0 : Nat := 121
theorem nM : prog.funcs[V0]? = some f121 := func121
theorem mG : Callable prog V0 := B9 func121
abbrev hq6 : Nat := 127
abbrev dL : Nat := 128
theorem uC : prog.funcs[dL]? = some f128 := func128
theorem sT : Callable prog dL := B9 func128
abbrev dK : Nat := 129
theorem uB : prog.funcs[dK]? = some f129 := func129
theorem sS : Callable prog dK := B9 func129
abbrev dH : Nat := 130
theorem tW : prog.funcs[dH]? = some f130 := func130
theorem iD : Callable prog dH := B9 func130
abbrev iX : Nat := 131
theorem xQ : prog.funcs[iX]? = some f131 := func131
theorem vV : Callable prog iX := B9 func131
abbrev dG : Nat := 132
theorem tV : prog.funcs[dG]? = some f132 := func132
theorem sQ : Callable prog dG := B9 func132
abbrev dF : Nat := 133
theorem tU : prog.funcs[dF]? = some f133 := func133
theorem sP : Callable prog dF := B9 func133
abbrev dE : Nat := 134
theorem tT : prog.funcs[dE]? = some f134 := func134
theorem sO : Callable prog dE := B9 func134
abbrev uO : Nat := 136
abbrev tR : Nat := 137
abbrev K7 : Nat := 139
theorem cN : prog.funcs[K7]? = some f139 := func139
theorem cJ : Callable prog K7 := B9 func139
abbrev qX : Nat := 140
abbrev H8 : Nat := 141
theorem Y8 : prog.funcs[H8]? = some f141 := func141
theorem Y1 : Callable prog H8 := B9 func141
abbrev aj0 : Nat := 143
abbrev pA : Nat := 144
abbrev uL : Nat := 146
abbrev J3 : Nat := 165
theorem lT : prog.funcs[J3]? = some f165 := func165
theorem kQ : Callable prog J3 := B9 func165
abbrev J4 : Nat := 166
theorem lZ : prog.funcs[J4]? = some f166 := func166
theorem kU : Callable prog J4 := B9 func166
abbrev M5 : Nat := 167
theorem pY : prog.funcs[M5]? = some f167 := func167
theorem nE : Callable prog M5 := B9 func167
abbrev ix0 : Nat := 190
end F
namespace T
abbrev aD : Nat := 3
theorem qH : prog.underlying aD = some (.int .i64) := underlying3
theorem D3 : Sz prog aD 1 := bE
theorem a8 : NoR prog aD := ⟨_, underlying3, rfl⟩
abbrev cj8 : Nat := 4
theorem lE : prog.underlying cj8 = some (.bool) := underlying4
theorem l8 : NoR prog cj8 := ⟨_, underlying4, rfl⟩
abbrev kj8 : Nat := 5
theorem ij1 : prog.underlying kj8 = some (.int .u8) := underlying5
abbrev H2 : Nat := 9
theorem r9 : prog.underlying H2 = some (.string) := underlying9
theorem j5 : Sz prog H2 1 := bE
theorem a9 : NoR prog H2 := ⟨_, underlying9, rfl⟩
abbrev mj6 : Nat := 17
abbrev mq2 : Nat := 20
abbrev mq9 : Nat := 21
abbrev bO : Nat := 22
theorem p9 : prog.underlying bO = some (.slice 44) := underlying22
theorem jW : Sz prog bO 1 := bE
theorem b3 : NoR prog bO := ⟨_, underlying22, rfl⟩
theorem jX : ElT prog bO 44 2 24 := ElT.of (z := (.agg #[(.string ⟨#[]⟩), (.int .i64 0)])) underlying22 m9 rfl (by decide)
abbrev dT : Nat := 23
theorem n7 : prog.underlying dT = some (.slice 46) := underlying23
theorem V5 : Sz prog dT 1 := bE
theorem b4 : NoR prog dT := ⟨_, underlying23, rfl⟩
theorem P4 : ElT prog dT 46 4 56 := ElT.of (z := (.agg #[(.string ⟨#[]⟩), (.int .i64 0), (.int .i64 0), (.slice none 0 0)])) underlying23 m9 rfl (by decide)
abbrev r5 : Nat := 25
theorem c7 : Sz prog r5 2 := bE
theorem d9 : IsR prog r5 := ⟨_, underlying25, rfl⟩
abbrev uY : Nat := 26
theorem v9 : prog.underlying uY = some (.slice 3) := underlying26
theorem mP : Sz prog uY 1 := bE
theorem j2 : NoR prog uY := ⟨_, underlying26, rfl⟩
theorem cX : ElT prog uY 3 1 8 := ElT.of (z := (.int .i64 0)) underlying26 m9 rfl (by decide)
abbrev cq0 : Nat := 30
abbrev jz8 : Nat := 32
abbrev zS : Nat := 33
theorem j6 : prog.underlying zS = some (.slice 9) := underlying33
theorem gx3 : Sz prog zS 1 := bE
theorem bM : NoR prog zS := ⟨_, underlying33, rfl⟩
theorem aj5 : ElT prog zS 9 1 16 := ElT.of (z := (.string ⟨#[]⟩)) underlying33 m9 rfl (by decide)
abbrev cj9 : Nat := 34
theorem O5 : NoR prog cj9 := ⟨_, underlying34, rfl⟩
abbrev Q3 : Nat := 44
theorem u7 : Sz prog Q3 2 := bE
theorem J7 : IsR prog Q3 := ⟨_, underlying44, rfl⟩
abbrev C1 : Nat := 46
theorem l4 : Sz prog C1 4 := bE
theorem w5 : IsR prog C1 := ⟨_, underlying46, rfl⟩
abbrev qJ : Nat := 52
theorem iN : prog.underlying qJ = some (.slice 26) := underlying52
theorem dj4 : Sz prog qJ 1 := bE
theorem sX : NoR prog qJ := ⟨_, underlying52, rfl⟩
theorem dj7 : ElT prog qJ 26 1 24 := ElT.of (z := (.slice none 0 0)) underlying52 m9 rfl (by decide)
abbrev sY : Nat := 58
theorem R4 : prog.underlying sY = some (.slice 65) := underlying58
theorem cY : ElT prog sY 65 2 24 := ElT.of (z := (.agg #[(.string ⟨#[]⟩), (.int .i64 0)])) underlying58 m9 rfl (by decide)
abbrev qL : Nat := 65
theorem bJ : Sz prog qL 2 := bE
theorem nU : IsR prog qL := ⟨_, underlying65, rfl⟩
abbrev gx2 : Nat := 72
theorem uX : prog.underlying gx2 = some (.int .u64) := underlying72
theorem rM : Sz prog gx2 1 := bE
theorem t0 : NoR prog gx2 := ⟨_, underlying72, rfl⟩
abbrev qG : Nat := 74
abbrev jz6 : Nat := 75
abbrev mR : Nat := 80
theorem cj5 : prog.underlying mR = some (.slice 5) := underlying80
theorem bj2 : Sz prog mR 1 := bE
theorem gG : NoR prog mR := ⟨_, underlying80, rfl⟩
abbrev mx0 : Nat := 82
abbrev bj6 : Nat := 87
abbrev cj4 : Nat := 89
abbrev cW : Nat := 95
theorem P0 : Sz prog cW 1 := bE
theorem N7 : NoR prog cW := ⟨_, underlying95, rfl⟩
abbrev Q4 : Nat := 96
theorem O4 : prog.underlying Q4 = some (.slice 95) := underlying96
theorem pJ : Sz prog Q4 1 := bE
theorem l3 : NoR prog Q4 := ⟨_, underlying96, rfl⟩
theorem pK : ElT prog Q4 95 1 1 := ElT.of (z := (.int .u8 0)) underlying96 m9 rfl (by decide)
abbrev Z4 : Nat := 97
theorem C5 : prog.underlying Z4 = some (.slice 147) := underlying97
theorem aB : Sz prog Z4 1 := bE
theorem i4 : NoR prog Z4 := ⟨_, underlying97, rfl⟩
theorem aE : ElT prog Z4 147 1 16 := ElT.of (z := .nilIface) underlying97 m9 rfl (by decide)
abbrev kM : Nat := 99
abbrev bj1 : Nat := 112
abbrev mq1 : Nat := 119
theorem iz9 : prog.underlying mq1 = some (.int .u64) := underlying119
abbrev J5 : Nat := 122
theorem gX : Sz prog J5 1 := bE
abbrev J6 : Nat := 124
theorem sF : Sz prog J6 2 := bE
abbrev qI : Nat := 126
abbrev dX : Nat := 127
theorem lF : Sz prog dX 1 := bE
theorem O1 : NoR prog dX := ⟨_, underlying127, rfl⟩
abbrev tB : Nat := 129
abbrev Z3 : Nat := 133
theorem C4 : prog.underlying Z3 = some (.slice 169) := underlying133
theorem iO : Sz prog Z3 1 := bE
theorem i7 : NoR prog Z3 := ⟨_, underlying133, rfl⟩
theorem iP : ElT prog Z3 169 4 72 := ElT.of (z := (.agg #[(.string ⟨#[]⟩), (.string ⟨#[]⟩), (.string ⟨#[]⟩), (.slice none 0 0)])) underlying133 m9 rfl (by decide)
abbrev I2 : Nat := 135
theorem v8 : Sz prog I2 2 := bE
theorem G1 : IsR prog I2 := ⟨_, underlying135, rfl⟩
abbrev P2 : Nat := 140
abbrev xB : Nat := 142
abbrev R8 : Nat := 147
theorem P3 : Sz prog R8 1 := bE
theorem N1 : NoR prog R8 := ⟨_, underlying147, rfl⟩
abbrev bI : Nat := 148
theorem wU : prog.underlying bI = some (.int .u8) := underlying148
theorem C6 : Sz prog bI 1 := bE
theorem w6 : NoR prog bI := ⟨_, underlying148, rfl⟩
abbrev R7 : Nat := 151
theorem M1 : prog.underlying R7 = some (.array 6 148) := underlying151
theorem w4 : Sz prog R7 6 := bE
theorem B3 : IsR prog R7 := ⟨_, underlying151, rfl⟩
abbrev bN : Nat := 153
theorem E3 : prog.underlying bN = some (.slice 156) := underlying153
theorem hX : NoR prog bN := ⟨_, underlying153, rfl⟩
theorem bK : ElT prog bN 156 2 16 := ElT.of (z := (.agg #[(.int .i64 0), (.int .i64 0)])) underlying153 m9 rfl (by decide)
abbrev M6 : Nat := 156
theorem u6 : Sz prog M6 2 := bE
theorem C0 : IsR prog M6 := ⟨_, underlying156, rfl⟩
abbrev O8 : Nat := 159
theorem iF : Sz prog O8 1 := bE
theorem K3 : NoR prog O8 := ⟨_, underlying159, rfl⟩
abbrev gx5 : Nat := 166
abbrev C2 : Nat := 169
theorem k4 : Sz prog C2 4 := bE
theorem t4 : IsR prog C2 := ⟨_, underlying169, rfl⟩
abbrev gq4 : Nat := 174
abbrev dj6 : Nat := 176
abbrev gq5 : Nat := 179
abbrev mq4 : Nat := 181
abbrev cj6 : Nat := 186
abbrev dj0 : Nat := 188
abbrev cP : Nat := 190
theorem aU : prog.underlying cP = some (.map 156 4) := underlying190
abbrev M2 : Nat := 192
theorem cK : Sz prog M2 1 := bE
theorem N8 : NoR prog M2 := ⟨_, underlying192, rfl⟩
abbrev dj5 : Nat := 195
abbrev mq8 : Nat := 202
abbrev E0 : Nat := 206
theorem V4 : Sz prog E0 1 := bE
theorem d8 : NoR prog E0 := ⟨_, underlying206, rfl⟩
abbrev sW : Nat := 208
theorem M8 : Sz prog sW 2 := bE
abbrev kN : Nat := 210
theorem v6 : prog.underlying kN = some (.map 9 208) := underlying210
abbrev jz7 : Nat := 212
abbrev wX : Nat := 219
abbrev bj0 : Nat := 222
abbrev zT : Nat := 224
abbrev mq6 : Nat := 225
abbrev gx4 : Nat := 229
abbrev mx1 : Nat := 232
abbrev mj7 : Nat := 242
abbrev gq3 : Nat := 244
abbrev bq6 : Nat := 245
abbrev mq5 : Nat := 274
theorem j3 (p : Addr) (w : World) : (Instr.fieldAt 25 (.pointer (some p)) 0).run prog w = .ok (.pointer (some (p.add 0))) w := m9
theorem j0 (p : Addr) (w : World) : (Instr.fieldAt 25 (.pointer (some p)) 1).run prog w = .ok (.pointer (some (p.add 1))) w := m9
theorem y8 (p : Addr) (w : World) : (Instr.fieldAt 44 (.pointer (some p)) 0).run prog w = .ok (.pointer (some (p.add 0))) w := m9
theorem y5 (p : Addr) (w : World) : (Instr.fieldAt 44 (.pointer (some p)) 1).run prog w = .ok (.pointer (some (p.add 1))) w := m9
theorem n6 (p : Addr) (w : World) : (Instr.fieldAt 46 (.pointer (some p)) 0).run prog w = .ok (.pointer (some (p.add 0))) w := m9
theorem m7 (p : Addr) (w : World) : (Instr.fieldAt 46 (.pointer (some p)) 1).run prog w = .ok (.pointer (some (p.add 1))) w := m9
theorem n5 (p : Addr) (w : World) : (Instr.fieldAt 46 (.pointer (some p)) 2).run prog w = .ok (.pointer (some (p.add 2))) w := m9
theorem m6 (p : Addr) (w : World) : (Instr.fieldAt 46 (.pointer (some p)) 3).run prog w = .ok (.pointer (some (p.add 3))) w := m9
theorem J2 (p : Addr) (w : World) : (Instr.fieldAt 74 (.pointer (some p)) 0).run prog w = .ok (.pointer (some (p.add 0))) w := m9
theorem B8 (p : Addr) (w : World) : (Instr.fieldAt 74 (.pointer (some p)) 1).run prog w = .ok (.pointer (some (p.add 1))) w := m9
theorem k5 (p : Addr) (w : World) : (Instr.fieldAt 74 (.pointer (some p)) 2).run prog w = .ok (.pointer (some (p.add 2))) w := m9
theorem p7 (p : Addr) (w : World) : (Instr.fieldAt 99 (.pointer (some p)) 0).run prog w = .ok (.pointer (some (p.add 0))) w := m9
theorem B6 (p : Addr) (w : World) : (Instr.fieldAt 99 (.pointer (some p)) 1).run prog w = .ok (.pointer (some (p.add 2))) w := m9
theorem l7 (p : Addr) (w : World) : (Instr.fieldAt 99 (.pointer (some p)) 2).run prog w = .ok (.pointer (some (p.add 3))) w := m9
theorem N6 (p : Addr) (w : World) : (Instr.fieldAt 122 (.pointer (some p)) 0).run prog w = .ok (.pointer (some (p.add 0))) w := m9
theorem cQ (p : Addr) (w : World) : (Instr.fieldAt 124 (.pointer (some p)) 1).run prog w = .ok (.pointer (some (p.add 1))) w := m9
theorem hU (p : Addr) (w : World) : (Instr.fieldAt 126 (.pointer (some p)) 0).run prog w = .ok (.pointer (some (p.add 0))) w := m9
theorem L4 (p : Addr) (w : World) : (Instr.fieldAt 129 (.pointer (some p)) 0).run prog w = .ok (.pointer (some (p.add 0))) w := m9
theorem L3 (p : Addr) (w : World) : (Instr.fieldAt 129 (.pointer (some p)) 1).run prog w = .ok (.pointer (some (p.add 1))) w := m9
theorem t6 (p : Addr) (w : World) : (Instr.fieldAt 135 (.pointer (some p)) 0).run prog w = .ok (.pointer (some (p.add 0))) w := m9
theorem A5 (p : Addr) (w : World) : (Instr.fieldAt 135 (.pointer (some p)) 1).run prog w = .ok (.pointer (some (p.add 1))) w := m9
theorem gZ (p : Addr) (w : World) : (Instr.fieldAt 140 (.pointer (some p)) 0).run prog w = .ok (.pointer (some (p.add 0))) w := m9
theorem gY (p : Addr) (w : World) : (Instr.fieldAt 140 (.pointer (some p)) 1).run prog w = .ok (.pointer (some (p.add 1))) w := m9
theorem D7 (p : Addr) (w : World) : (Instr.fieldAt 156 (.pointer (some p)) 0).run prog w = .ok (.pointer (some (p.add 0))) w := m9
theorem L0 (p : Addr) (w : World) : (Instr.fieldAt 156 (.pointer (some p)) 1).run prog w = .ok (.pointer (some (p.add 1))) w := m9
theorem J8 (p : Addr) (w : World) : (Instr.fieldAt 169 (.pointer (some p)) 0).run prog w = .ok (.pointer (some (p.add 0))) w := m9
theorem B7 (p : Addr) (w : World) : (Instr.fieldAt 169 (.pointer (some p)) 1).run prog w = .ok (.pointer (some (p.add 1))) w := m9
theorem G2 (p : Addr) (w : World) : (Instr.fieldAt 169 (.pointer (some p)) 2).run prog w = .ok (.pointer (some (p.add 2))) w := m9
theorem Q1 (p : Addr) (w : World) : (Instr.fieldAt 169 (.pointer (some p)) 3).run prog w = .ok (.pointer (some (p.add 3))) w := m9
theorem t9 (p : Addr) (w : World) : (Instr.fieldAt 208 (.pointer (some p)) 0).run prog w = .ok (.pointer (some (p.add 0))) w := m9
theorem G3 (p : Addr) (w : World) : (Instr.fieldAt 208 (.pointer (some p)) 1).run prog w = .ok (.pointer (some (p.add 1))) w := m9
theorem A1 (w : World) : (Instr.alloc 25 true (.tuple #[])).run prog w = .ok (.pointer (some ⟨w.heap.size, 0, none⟩)) (w.alloc (.cells #[(.slice none 0 0), (.slice none 0 0)] 25 (0, 0))) := m9
theorem Z2 (w : World) : (Instr.alloc 44 true (.tuple #[])).run prog w = .ok (.pointer (some ⟨w.heap.size, 0, none⟩)) (w.alloc (.cells #[(.string ⟨#[]⟩), (.int .i64 0)] 44 (0, 0))) := m9
theorem E1 (w : World) : (Instr.alloc 46 true (.tuple #[])).run prog w = .ok (.pointer (some ⟨w.heap.size, 0, none⟩)) (w.alloc (.cells #[(.string ⟨#[]⟩), (.int .i64 0), (.int .i64 0), (.slice none 0 0)] 46 (0, 0))) := m9
theorem dj8 (w : World) : (Instr.alloc 52 true (.tuple #[])).run prog w = .ok (.pointer (some ⟨w.heap.size, 0, none⟩)) (w.alloc (.cells #[(.slice none 0 0)] 52 (0, 0))) := m9
theorem iB (w : World) : (Instr.alloc 122 true (.tuple #[])).run prog w = .ok (.pointer (some ⟨w.heap.size, 0, none⟩)) (w.alloc (.cells #[(.int .i64 0)] 122 (0, 0))) := m9
theorem sI (w : World) : (Instr.alloc 124 true (.tuple #[])).run prog w = .ok (.pointer (some ⟨w.heap.size, 0, none⟩)) (w.alloc (.cells #[(.int .i64 0), (.slice none 0 0)] 124 (0, 0))) := m9
theorem pM (w : World) : (Instr.alloc 129 true (.tuple #[])).run prog w = .ok (.pointer (some ⟨w.heap.size, 0, none⟩)) (w.alloc (.cells #[(.pointer none), (.slice none 0 0)] 129 (0, 0))) := m9
theorem S6 (w : World) : (Instr.alloc 135 true (.tuple #[])).run prog w = .ok (.pointer (some ⟨w.heap.size, 0, none⟩)) (w.alloc (.cells #[(.slice none 0 0), (.slice none 0 0)] 135 (0, 0))) := m9
theorem jY (w : World) : (Instr.alloc 140 true (.tuple #[])).run prog w = .ok (.pointer (some ⟨w.heap.size, 0, none⟩)) (w.alloc (.cells #[(.int .i64 0), (.int .i64 0)] 140 (0, 0))) := m9
theorem vB (w : World) : (Instr.alloc 148 true (.tuple #[])).run prog w = .ok (.pointer (some ⟨w.heap.size, 0, none⟩)) (w.alloc (.cells #[(.int .u8 0)] 148 (0, 0))) := m9
theorem P5 (w : World) : (Instr.alloc 151 true (.tuple #[])).run prog w = .ok (.pointer (some ⟨w.heap.size, 0, none⟩)) (w.alloc (.cells #[(.int .u8 0), (.int .u8 0), (.int .u8 0), (.int .u8 0), (.int .u8 0), (.int .u8 0)] 151 (0, 0))) := m9
theorem Z1 (w : World) : (Instr.alloc 156 true (.tuple #[])).run prog w = .ok (.pointer (some ⟨w.heap.size, 0, none⟩)) (w.alloc (.cells #[(.int .i64 0), (.int .i64 0)] 156 (0, 0))) := m9
theorem iI (w : World) : (Instr.alloc 159 true (.tuple #[])).run prog w = .ok (.pointer (some ⟨w.heap.size, 0, none⟩)) (w.alloc (.cells #[.nilFunc] 159 (0, 0))) := m9
theorem z9 (w : World) : (Instr.alloc 169 true (.tuple #[])).run prog w = .ok (.pointer (some ⟨w.heap.size, 0, none⟩)) (w.alloc (.cells #[(.string ⟨#[]⟩), (.string ⟨#[]⟩), (.string ⟨#[]⟩), (.slice none 0 0)] 169 (0, 0))) := m9
theorem cL (w : World) : (Instr.alloc 192 true (.tuple #[])).run prog w = .ok (.pointer (some ⟨w.heap.size, 0, none⟩)) (w.alloc (.cells #[.nilFunc] 192 (0, 0))) := m9
theorem V6 (w : World) : (Instr.alloc 206 true (.tuple #[])).run prog w = .ok (.pointer (some ⟨w.heap.size, 0, none⟩)) (w.alloc (.cells #[.nilFunc] 206 (0, 0))) := m9
theorem M9 (w : World) : (Instr.alloc 208 true (.tuple #[])).run prog w = .ok (.pointer (some ⟨w.heap.size, 0, none⟩)) (w.alloc (.cells #[(.bool false), .nilFunc] 208 (0, 0))) := m9
theorem E8  (w : World) : (Instr.build 25 #[]).run prog w = .ok (.agg #[(.slice none 0 0), (.slice none 0 0)]) w := m9
theorem qK (x1 : Option Addr) (x2 : Nat) (x3 : Nat) (x4 : Option Addr) (x5 : Nat) (x6 : Nat) (w : World) : (Instr.build 25 #[(0, (.slice x1 x2 x3)), (1, (.slice x4 x5 x6))]).run prog w = .ok (.agg #[(.slice x1 x2 x3), (.slice x4 x5 x6)]) w := m9
theorem vA (x1 : ByteArray) (w : World) : (Instr.build 44 #[(0, (.string x1))]).run prog w = .ok (.agg #[(.string x1), (.int .i64 0)]) w := m9
theorem M3 (x1 : ByteArray) (x2 : Int) (w : World) : (Instr.build 44 #[(0, (.string x1)), (1, (.int .i64 x2))]).run prog w = .ok (.agg #[(.string x1), (.int .i64 x2)]) w := m9
theorem U1 (x1 : ByteArray) (x2 : Int) (x3 : Int) (w : World) : (Instr.build 46 #[(0, (.string x1)), (1, (.int .i64 x2)), (2, (.int .i64 x3))]).run prog w = .ok (.agg #[(.string x1), (.int .i64 x2), (.int .i64 x3), (.slice none 0 0)]) w := m9
theorem mQ (x1 : ByteArray) (x2 : Int) (x3 : Int) (x4 : Option Addr) (x5 : Nat) (x6 : Nat) (w : World) : (Instr.build 46 #[(0, (.string x1)), (1, (.int .i64 x2)), (2, (.int .i64 x3)), (3, (.slice x4 x5 x6))]).run prog w = .ok (.agg #[(.string x1), (.int .i64 x2), (.int .i64 x3), (.slice x4 x5 x6)]) w := m9
theorem J9 (x1 : ByteArray) (x2 : Int) (w : World) : (Instr.build 65 #[(0, (.string x1)), (1, (.int .i64 x2))]).run prog w = .ok (.agg #[(.string x1), (.int .i64 x2)]) w := m9
theorem iH (x1 : Option Addr) (x2 : Nat) (x3 : Nat) (x4 : Int) (w : World) : (Instr.build 74 #[(0, (.slice x1 x2 x3)), (2, (.int .u64 x4))]).run prog w = .ok (.agg #[(.slice x1 x2 x3), (.int .i64 0), (.int .u64 x4)]) w := m9
theorem tE (x1 : Option Addr) (x2 : Nat) (x3 : Nat) (x4 : Option Addr) (x5 : Nat) (x6 : Nat) (w : World) : (Instr.build 99 #[(0, (.agg #[(.slice x1 x2 x3), (.slice x4 x5 x6)]))]).run prog w = .ok (.agg #[(.slice x1 x2 x3), (.slice x4 x5 x6), (.slice none 0 0), (.slice none 0 0)]) w := m9
theorem pL (x1 : Int) (w : World) : (Instr.build 122 #[(0, (.int .i64 x1))]).run prog w = .ok (.agg #[(.int .i64 x1)]) w := m9
theorem lI (x1 : Int) (x2 : Option Addr) (x3 : Nat) (x4 : Nat) (w : World) : (Instr.build 124 #[(0, (.int .i64 x1)), (1, (.slice x2 x3 x4))]).run prog w = .ok (.agg #[(.int .i64 x1), (.slice x2 x3 x4)]) w := m9
theorem sH (x1 : Option Addr) (x2 : Nat) (x3 : Nat) (w : World) : (Instr.build 126 #[(0, (.slice x1 x2 x3))]).run prog w = .ok (.agg #[(.slice x1 x2 x3)]) w := m9
theorem N2  (w : World) : (Instr.build 135 #[]).run prog w = .ok (.agg #[(.slice none 0 0), (.slice none 0 0)]) w := m9
theorem B5 (x1 : Int) (x2 : Int) (w : World) : (Instr.build 140 #[(0, (.int .i64 x1)), (1, (.int .i64 x2))]).run prog w = .ok (.agg #[(.int .i64 x1), (.int .i64 x2)]) w := m9
theorem W5 (x1 : Int) (x2 : Int) (w : World) : (Instr.build 156 #[(0, (.int .i64 x1)), (1, (.int .i64 x2))]).run prog w = .ok (.agg #[(.int .i64 x1), (.int .i64 x2)]) w := m9
theorem H0  (w : World) : (Instr.build 169 #[]).run prog w = .ok (.agg #[(.string ⟨#[]⟩), (.string ⟨#[]⟩), (.string ⟨#[]⟩), (.slice none 0 0)]) w := m9
theorem Q2 (x1 : ByteArray) (w : World) : (Instr.build 169 #[(0, (.string x1))]).run prog w = .ok (.agg #[(.string x1), (.string ⟨#[]⟩), (.string ⟨#[]⟩), (.slice none 0 0)]) w := m9
theorem U0 (x1 : Bool) (x2 : Fn) (x3 : Array Value) (x4 : Array Value) (w : World) : (Instr.build 208 #[(0, (.bool x1)), (1, (.func x2 x3 x4))]).run prog w = .ok (.agg #[(.bool x1), (.func x2 x3 x4)]) w := m9
theorem tF (x1 : Fn) (x2 : Array Value) (x3 : Array Value) (w : World) : (Instr.build 208 #[(1, (.func x1 x2 x3))]).run prog w = .ok (.agg #[(.bool false), (.func x1 x2 x3)]) w := m9
theorem iA (x1 : ByteArray) (x2 : Int) (w : World) : (Instr.buildSlice 22 1 #[(0, (.agg #[(.string x1), (.int .i64 x2)]))]).run prog w = .ok (.slice (some ⟨w.heap.size, 0, none⟩) 1 1) (w.alloc (.cells #[(.string x1), (.int .i64 x2)] 44 (0, 0))) := m9
theorem sG (x1 : ByteArray) (x2 : Int) (x3 : ByteArray) (x4 : Int) (x5 : ByteArray) (x6 : Int) (x7 : ByteArray) (x8 : Int) (w : World) : (Instr.buildSlice 22 4 #[(0, (.agg #[(.string x1), (.int .i64 x2)])), (1, (.agg #[(.string x3), (.int .i64 x4)])), (2, (.agg #[(.string x5), (.int .i64 x6)])), (3, (.agg #[(.string x7), (.int .i64 x8)]))]).run prog w = .ok (.slice (some ⟨w.heap.size, 0, none⟩) 4 4) (w.alloc (.cells #[(.string x1), (.int .i64 x2), (.string x3), (.int .i64 x4), (.string x5), (.int .i64 x6), (.string x7), (.int .i64 x8)] 44 (0, 0))) := m9
theorem tD  (w : World) : (Instr.buildSlice 23 0 #[]).run prog w = .ok (.slice (some ⟨w.heap.size, 0, none⟩) 0 0) (w.alloc (.cells #[] 46 (0, 0))) := m9
theorem aG (x1 : ByteArray) (x2 : Int) (x3 : Int) (x4 : Option Addr) (x5 : Nat) (x6 : Nat) (w : World) : (Instr.buildSlice 23 1 #[(0, (.agg #[(.string x1), (.int .i64 x2), (.int .i64 x3), (.slice x4 x5 x6)]))]).run prog w = .ok (.slice (some ⟨w.heap.size, 0, none⟩) 1 1) (w.alloc (.cells #[(.string x1), (.int .i64 x2), (.int .i64 x3), (.slice x4 x5 x6)] 46 (0, 0))) := m9
theorem iQ (x1 : ByteArray) (x2 : Int) (x3 : Int) (x4 : Option Addr) (x5 : Nat) (x6 : Nat) (x7 : ByteArray) (x8 : Int) (x9 : Int) (x10 : Option Addr) (x11 : Nat) (x12 : Nat) (x13 : ByteArray) (x14 : Int) (x15 : Int) (x16 : Option Addr) (x17 : Nat) (x18 : Nat) (x19 : ByteArray) (x20 : Int) (x21 : Int) (x22 : Option Addr) (x23 : Nat) (x24 : Nat) (x25 : ByteArray) (x26 : Int) (x27 : Int) (x28 : Option Addr) (x29 : Nat) (x30 : Nat) (x31 : ByteArray) (x32 : Int) (x33 : Int) (x34 : Option Addr) (x35 : Nat) (x36 : Nat) (w : World) : (Instr.buildSlice 23 6 #[(0, (.agg #[(.string x1), (.int .i64 x2), (.int .i64 x3), (.slice x4 x5 x6)])), (1, (.agg #[(.string x7), (.int .i64 x8), (.int .i64 x9), (.slice x10 x11 x12)])), (2, (.agg #[(.string x13), (.int .i64 x14), (.int .i64 x15), (.slice x16 x17 x18)])), (3, (.agg #[(.string x19), (.int .i64 x20), (.int .i64 x21), (.slice x22 x23 x24)])), (4, (.agg #[(.string x25), (.int .i64 x26), (.int .i64 x27), (.slice x28 x29 x30)])), (5, (.agg #[(.string x31), (.int .i64 x32), (.int .i64 x33), (.slice x34 x35 x36)]))]).run prog w = .ok (.slice (some ⟨w.heap.size, 0, none⟩) 6 6) (w.alloc (.cells #[(.string x1), (.int .i64 x2), (.int .i64 x3), (.slice x4 x5 x6), (.string x7), (.int .i64 x8), (.int .i64 x9), (.slice x10 x11 x12), (.string x13), (.int .i64 x14), (.int .i64 x15), (.slice x16 x17 x18), (.string x19), (.int .i64 x20), (.int .i64 x21), (.slice x22 x23 x24), (.string x25), (.int .i64 x26), (.int .i64 x27), (.slice x28 x29 x30), (.string x31), (.int .i64 x32), (.int .i64 x33), (.slice x34 x35 x36)] 46 (0, 0))) := m9
theorem G6 (x1 : Int) (w : World) : (Instr.buildSlice 26 1 #[(0, (.int .i64 x1))]).run prog w = .ok (.slice (some ⟨w.heap.size, 0, none⟩) 1 1) (w.alloc (.cells #[(.int .i64 x1)] 3 (0, 0))) := m9
theorem iG (x1 : Int) (x2 : Int) (w : World) : (Instr.buildSlice 26 2 #[(0, (.int .i64 x1)), (1, (.int .i64 x2))]).run prog w = .ok (.slice (some ⟨w.heap.size, 0, none⟩) 2 2) (w.alloc (.cells #[(.int .i64 x1), (.int .i64 x2)] 3 (0, 0))) := m9
theorem uZ (x1 : ByteArray) (w : World) : (Instr.buildSlice 33 1 #[(0, (.string x1))]).run prog w = .ok (.slice (some ⟨w.heap.size, 0, none⟩) 1 1) (w.alloc (.cells #[(.string x1)] 9 (0, 0))) := m9
theorem cj7 (x1 : ByteArray) (x2 : ByteArray) (x3 : ByteArray) (x4 : ByteArray) (x5 : ByteArray) (x6 : ByteArray) (x7 : ByteArray) (x8 : ByteArray) (x9 : ByteArray) (w : World) : (Instr.buildSlice 33 9 #[(0, (.string x1)), (1, (.string x2)), (2, (.string x3)), (3, (.string x4)), (4, (.string x5)), (5, (.string x6)), (6, (.string x7)), (7, (.string x8)), (8, (.string x9))]).run prog w = .ok (.slice (some ⟨w.heap.size, 0, none⟩) 9 9) (w.alloc (.cells #[(.string x1), (.string x2), (.string x3), (.string x4), (.string x5), (.string x6), (.string x7), (.string x8), (.string x9)] 9 (0, 0))) := m9
theorem bj3 (x1 : ByteArray) (x2 : ByteArray) (x3 : ByteArray) (x4 : ByteArray) (x5 : ByteArray) (x6 : ByteArray) (x7 : ByteArray) (x8 : ByteArray) (x9 : ByteArray) (x10 : ByteArray) (x11 : ByteArray) (x12 : ByteArray) (x13 : ByteArray) (x14 : ByteArray) (x15 : ByteArray) (x16 : ByteArray) (w : World) : (Instr.buildSlice 33 16 #[(0, (.string x1)), (1, (.string x2)), (2, (.string x3)), (3, (.string x4)), (4, (.string x5)), (5, (.string x6)), (6, (.string x7)), (7, (.string x8)), (8, (.string x9)), (9, (.string x10)), (10, (.string x11)), (11, (.string x12)), (12, (.string x13)), (13, (.string x14)), (14, (.string x15)), (15, (.string x16))]).run prog w = .ok (.slice (some ⟨w.heap.size, 0, none⟩) 16 16) (w.alloc (.cells #[(.string x1), (.string x2), (.string x3), (.string x4), (.string x5), (.string x6), (.string x7), (.string x8), (.string x9), (.string x10), (.string x11), (.string x12), (.string x13), (.string x14), (.string x15), (.string x16)] 9 (0, 0))) := m9
theorem bj5 (x1 : Option Addr) (x2 : Nat) (x3 : Nat) (w : World) : (Instr.buildSlice 52 1 #[(0, (.slice x1 x2 x3))]).run prog w = .ok (.slice (some ⟨w.heap.size, 0, none⟩) 1 1) (w.alloc (.cells #[(.slice x1 x2 x3)] 26 (0, 0))) := m9
theorem bj4 (x1 : Option Addr) (x2 : Nat) (x3 : Nat) (x4 : Option Addr) (x5 : Nat) (x6 : Nat) (w : World) : (Instr.buildSlice 52 2 #[(0, (.slice x1 x2 x3)), (1, (.slice x4 x5 x6))]).run prog w = .ok (.slice (some ⟨w.heap.size, 0, none⟩) 2 2) (w.alloc (.cells #[(.slice x1 x2 x3), (.slice x4 x5 x6)] 26 (0, 0))) := m9
theorem aF (x1 : ByteArray) (x2 : Int) (w : World) : (Instr.buildSlice 58 1 #[(0, (.agg #[(.string x1), (.int .i64 x2)]))]).run prog w = .ok (.slice (some ⟨w.heap.size, 0, none⟩) 1 1) (w.alloc (.cells #[(.string x1), (.int .i64 x2)] 65 (0, 0))) := m9
theorem tC (x1 : ByteArray) (x2 : Int) (x3 : ByteArray) (x4 : Int) (x5 : ByteArray) (x6 : Int) (w : World) : (Instr.buildSlice 58 3 #[(0, (.agg #[(.string x1), (.int .i64 x2)])), (1, (.agg #[(.string x3), (.int .i64 x4)])), (2, (.agg #[(.string x5), (.int .i64 x6)]))]).run prog w = .ok (.slice (some ⟨w.heap.size, 0, none⟩) 3 3) (w.alloc (.cells #[(.string x1), (.int .i64 x2), (.string x3), (.int .i64 x4), (.string x5), (.int .i64 x6)] 65 (0, 0))) := m9
theorem lH (x1 : Int) (w : World) : (Instr.buildSlice 96 1 #[(0, (.int .u8 x1))]).run prog w = .ok (.slice (some ⟨w.heap.size, 0, none⟩) 1 1) (w.alloc (.cells #[(.int .u8 x1)] 95 (0, 0))) := m9
theorem S9 (x1 : Nat) (x2 : Value) (w : World) : (Instr.buildSlice 97 1 #[(0, (.iface x1 x2))]).run prog w = .ok (.slice (some ⟨w.heap.size, 0, none⟩) 1 1) (w.alloc (.cells #[(.iface x1 x2)] 147 (0, 0))) := m9
theorem dW (x1 : ByteArray) (x2 : ByteArray) (x3 : ByteArray) (x4 : Option Addr) (x5 : Nat) (x6 : Nat) (w : World) : (Instr.buildSlice 133 1 #[(0, (.agg #[(.string x1), (.string x2), (.string x3), (.slice x4 x5 x6)]))]).run prog w = .ok (.slice (some ⟨w.heap.size, 0, none⟩) 1 1) (w.alloc (.cells #[(.string x1), (.string x2), (.string x3), (.slice x4 x5 x6)] 169 (0, 0))) := m9
theorem hZ (x1 : Int) (x2 : Int) (w : World) : (Instr.buildSlice 153 1 #[(0, (.agg #[(.int .i64 x1), (.int .i64 x2)]))]).run prog w = .ok (.slice (some ⟨w.heap.size, 0, none⟩) 1 1) (w.alloc (.cells #[(.int .i64 x1), (.int .i64 x2)] 156 (0, 0))) := m9
theorem wY (a0 b0 : Str) (a1 b1 : Int) (w : World) : (Op.equalIn 10000 44 (.agg #[.string ⟨(a0 : Str).toArray⟩, .int .i64 a1]) (.agg #[.string ⟨(b0 : Str).toArray⟩, .int .i64 b1])).run prog w = .ok (decide ((a0, a1) = (b0, b1))) w := by
  rw [run_equalIn_agg w 9999 44 _ _ (by simp only [Program.fieldsOf, underlying44]) m9]; simp only [Program.fieldsOf, underlying44]
  by_cases h0 : a0 = b0 <;> by_cases h1 : a1 = b1 <;>
    simp [Op.eqFields, part, isAgg, run_equalIn_int _ 9998 3 .i64 .i64 _ _ underlying3, run_equalIn_string _ 9998 9 _ _ underlying9, run_underlying underlying3, run_underlying underlying9, h0, h1]
theorem wW (a0 b0 : Str) (a1 b1 : Int) (w : World) : (binOp .neq 44 (.agg #[.string ⟨(a0 : Str).toArray⟩, .int .i64 a1]) (.agg #[.string ⟨(b0 : Str).toArray⟩, .int .i64 b1])).run prog w = .ok (.bool (decide (¬ (a0, a1) = (b0, b1)))) w := by rw [run_neq_struct, wY, decide_not]; rfl
theorem xA (op : BinOp) (x y : Operand) (xs ys : Array Value) (w : World) : (eqGuard op 44 x y (.agg xs) (.agg ys)).run prog w = .ok () w := run_eqGuard_agg w op 44 x y xs ys m9
theorem zD (a0 b0 : Str) (a1 b1 : Int) (w : World) : (Op.equalIn 10000 65 (.agg #[.string ⟨(a0 : Str).toArray⟩, .int .i64 a1]) (.agg #[.string ⟨(b0 : Str).toArray⟩, .int .i64 b1])).run prog w = .ok (decide ((a0, a1) = (b0, b1))) w := by
  rw [run_equalIn_agg w 9999 65 _ _ (by simp only [Program.fieldsOf, underlying65]) m9]; simp only [Program.fieldsOf, underlying65]
  by_cases h0 : a0 = b0 <;> by_cases h1 : a1 = b1 <;>
    simp [Op.eqFields, part, isAgg, run_equalIn_int _ 9998 3 .i64 .i64 _ _ underlying3, run_equalIn_string _ 9998 9 _ _ underlying9, run_underlying underlying3, run_underlying underlying9, h0, h1]
theorem zC (a0 b0 : Str) (a1 b1 : Int) (w : World) : (binOp .neq 65 (.agg #[.string ⟨(a0 : Str).toArray⟩, .int .i64 a1]) (.agg #[.string ⟨(b0 : Str).toArray⟩, .int .i64 b1])).run prog w = .ok (.bool (decide (¬ (a0, a1) = (b0, b1)))) w := by rw [run_neq_struct, zD, decide_not]; rfl
theorem zE (op : BinOp) (x y : Operand) (xs ys : Array Value) (w : World) : (eqGuard op 65 x y (.agg xs) (.agg ys)).run prog w = .ok () w := run_eqGuard_agg w op 65 x y xs ys m9
theorem lG (a0 b0 : Int) (a1 b1 : Int) (w : World) : (Op.equalIn 10000 156 (.agg #[.int .i64 a0, .int .i64 a1]) (.agg #[.int .i64 b0, .int .i64 b1])).run prog w = .ok (decide ((a0, a1) = (b0, b1))) w := by
  rw [run_equalIn_agg w 9999 156 _ _ (by simp only [Program.fieldsOf, underlying156]) m9]; simp only [Program.fieldsOf, underlying156]
  by_cases h0 : a0 = b0 <;> by_cases h1 : a1 = b1 <;>
    simp [Op.eqFields, part, isAgg, run_equalIn_int _ 9998 3 .i64 .i64 _ _ underlying3, run_underlying underlying3, h0, h1]
theorem wV (a0 b0 : Int) (a1 b1 : Int) (w : World) : (binOp .neq 156 (.agg #[.int .i64 a0, .int .i64 a1]) (.agg #[.int .i64 b0, .int .i64 b1])).run prog w = .ok (.bool (decide (¬ (a0, a1) = (b0, b1)))) w := by rw [run_neq_struct, lG, decide_not]; rfl
theorem wZ (op : BinOp) (x y : Operand) (xs ys : Array Value) (w : World) : (eqGuard op 156 x y (.agg xs) (.agg ys)).run prog w = .ok () w := run_eqGuard_agg w op 156 x y xs ys m9
end T
end Go.Proofs.YtdgmfagfpbdbhaaGreatDoor
end
section
namespace Go.W
universe u
open Go Go.RowKit
class El (α : Type) extends Inhabited α where
  cells : α → List Value
  sz : Nat
  len : ∀ a, (cells a).length = sz
  one : ∀ a, ∀ u ∈ cells a, u.oneCell' = true
def rows {α : Type} [El α] (l : List α) : List Value := l.flatMap El.cells
instance : El Str where
  default := []
  cells s := [str s]
  sz := 1
  len _ := rfl
  one a u h := by simp at h; subst h; rfl
instance : El Int where
  default := 0
  cells n := [int n]
  sz := 1
  len _ := rfl
  one a u h := by simp at h; subst h; rfl
instance : El UInt8 where
  default := 0
  cells n := [.int .u8 n.toNat]
  sz := 1
  len _ := rfl
  one a u h := by simp at h; subst h; rfl
abbrev Mk := Int × Int × Str
instance : El Mk where
  default := (0, 0, [])
  cells m := [int m.1, int m.2.1, str m.2.2]
  sz := 3
  len _ := rfl
  one a u h := by simp at h; rcases h with h | h | h <;> subst h <;> rfl
structure Sl (α : Type) where
  a : Option Addr
  c : Nat
  l : List α
instance {α : Type} : El (Sl α) where
  default := ⟨none, 0, []⟩
  cells p := [.slice p.a p.l.length p.c]
  sz := 1
  len _ := rfl
  one a u h := by simp at h; subst h; rfl
section
variable {α : Type} [El α]
theorem qM : rows ([] : List α) = [] := rfl
theorem V7 (a : α) (l : List α) : rows (a :: l) = El.cells a ++ rows l := rfl
theorem v7 (l l' : List α) : rows (l ++ l') = rows l ++ rows l' := by simp [rows]
theorem O6 (l : List α) : (rows l).length = l.length * El.sz α := by
  induction l with
  | nil => simp [qM]
  | cons a l ih => rw [V7, List.length_append, El.len, ih, List.length_cons, Nat.add_mul, Nat.one_mul, Nat.add_comm]
theorem D4 (l : List α) : ∀ u ∈ rows l, u.oneCell' = true := by
  intro u hu; obtain ⟨a, _, h⟩ := List.mem_flatMap.1 hu; exact El.one a u h
theorem xE (l : List α) (k : Nat) : (rows l).drop (k * El.sz α) = rows (l.drop k) := by
  induction l generalizing k with
  | nil => simp [qM]
  | cons a l ih =>
    cases k with
    | zero => simp
    | succ k =>
      rw [V7, List.drop_succ_cons, ← ih, List.drop_append, El.len, List.drop_eq_nil_of_le (by rw [El.len, Nat.succ_mul]; omega), List.nil_append]
      congr 1
      rw [Nat.succ_mul]
      omega
theorem rows_get' (l : List α) (i j : Nat) (hi : i < l.length) (hj : j < El.sz α) : (rows l)[i * El.sz α + j]? = (El.cells (l.getD i default))[j]? := by
  have h := congrArg (·[j]?) (xE l i); simp only [List.getElem?_drop] at h; rw [h, List.drop_eq_getElem_cons hi, V7, List.getElem?_append_left (by rw [El.len]; exact hj)]
  simp [List.getD_eq_getElem?_getD, hi]
theorem rows_get {l : List α} {i j : Nat} {v : Value} (hi : i < l.length) (hv : (El.cells (l.getD i default))[j]? = some v) : (rows l)[i * El.sz α + j]? = some v := by
  have hj : j < El.sz α := by
    have := (List.getElem?_eq_some_iff.1 hv).1
    rwa [El.len] at this
  rw [rows_get' l i j hi hj, hv]
theorem b2 {l : List α} {i : Nat} {v : Value} (hi : i < l.length) (hv : (El.cells (l.getD i default))[0]? = some v) : (rows l)[i * El.sz α]? = some v := rows_get (j := 0) hi hv
theorem u5 {l : List α} {i : Nat} (hi : i < l.length) : ∀ j u, (El.cells (l.getD i default))[j]? = some u → (rows l)[i * El.sz α + j]? = some u := fun j u h => rows_get hi h
theorem rows_lt {l : List α} {i : Nat} (hi : i < l.length) (h0 : 0 < El.sz α) : i * El.sz α < (rows l).length := by
  rw [O6]; exact Nat.mul_lt_mul_of_pos_right hi h0
theorem xD (l : List α) (k : Nat) : (rows l).take (k * El.sz α) = rows (l.take k) := by
  induction l generalizing k with
  | nil => simp [qM]
  | cons a l ih =>
    cases k with
    | zero => simp [qM]
    | succ k =>
      rw [V7, List.take_succ_cons, V7, ← ih, Nat.succ_mul, List.take_append, El.len, List.take_of_length_le (by rw [El.len]; omega)]
      congr 2
      omega
end
theorem xF {c : Cx} {Q : Exit → Act → World → Prop} {fr : Fr} {hp : Hp} {L : List Fact} {ops : Array Oper} {rest : List Oper} {d : Tmp} {ty : TypeId} {pos : String} {af : Array Edge}
    {s t : TypeId} {x : Operand} {ks k k' : IntKind} {a : Int} (z : Int) (hd : Nat.blt d c.n = true) (hs : c.P.underlying s = some (.int ks)) (ht : c.P.underlying t = some (.int k')) (hx : ev fr x = some (.int k a)) (hz : k'.wrap a = z)
    (kk : HL c ops Q rest ((d, .int k' z) :: fr) hp L) : HL c ops Q (⟨some d, .convert s t x, ty, pos, af, none⟩ :: rest) fr hp L :=
  B1 _ rfl rfl hd (fun a' w ha _ => by
    simp only [execOp, ha.ev hx, Sem.run_bind, convert, run_underlying hs, run_underlying ht, Result.andThen_ok]; rw [← hz]
    cases ks <;> rfl) kk
theorem r_rem {c : Cx} {Q : Exit → Act → World → Prop} {fr : Fr} {hp : Hp} {L : List Fact} {ops : Array Oper} {rest : List Oper} {d : Tmp} {ty : TypeId} {pos : String} {af : Array Edge}
    {t yt : TypeId} {x y : Operand} {kd : IntKind} {a b : Int} (hd : Nat.blt d c.n = true) (hx : ev fr x = some (.int kd a)) (hy : ev fr y = some (.int kd b)) (hb : b ≠ 0)
    (kk : HL c ops Q rest ((d, .int kd (a.tmod b)) :: fr) hp L) : HL c ops Q (⟨some d, .binOp .rem t x y yt, ty, pos, af, none⟩ :: rest) fr hp L :=
  N3 _ hd hx hy (fun _ => rfl) (fun w => by
    have : (binOp .rem t (.int kd a) (.int kd b)) = Op.intDiv .rem kd a b := by cases kd <;> rfl
    rw [this]
    simp [Op.intDiv, hb]) kk
theorem wrapU (n : Int) : 0 ≤ IntKind.u64.wrap n ∧ IntKind.u64.wrap n < 18446744073709551616 := by
  simp only [IntKind.wrap, IntKind.bits, IntKind.signed]
  simp
  omega
theorem q8 {α : Type} [El α] {c : Cx} {Q : Exit → Act → World → Prop} {fr : Fr} {hp : Hp} {L : List Fact} {ops : Array Oper} {rest : List Oper} {d : Tmp} {ty : TypeId} {pos : String} {af : Array Edge}
    {t e : TypeId} {x i : Operand} {A : Option Addr} {n cp : Nat} {kd : IntKind} {z : Int} (l : List α) (j : Nat) (hd : Nat.blt d c.n = true) (ht : c.P.underlying t = some (.slice e)) (hz : Sz c.P e (El.sz α))
    (hx : ev fr x = some (.slice A n cp)) (hi : ev fr i = some (.int kd z)) (hjz : z = (j : Int)) (hr : Row A (rows l) ∈ L) (hn : n = l.length) (hj : j < l.length) (h0 : 0 < El.sz α)
    (k : HL c ops Q rest ((d, .pointer (some ((adr A).add (j * El.sz α)))) :: fr) hp L) : HL c ops Q (⟨some d, .indexAddr t x i, ty, pos, af, none⟩ :: rest) fr hp L :=
  dq9 j hd ht hz hx hi hjz (by omega) hr (rows_lt hj h0) k
def Rows2 {α : Type} [El α] (A : Option Addr) (ps : List (Sl α)) : Fact where
  P w := (Row A (rows ps)).P w ∧ ∀ p ∈ ps, (Row p.a (rows p.l)).P w
  fp k := (Row A (rows ps)).fp k ∨ ∃ p ∈ ps, (Row p.a (rows p.l)).fp k
  st w w' h hP := ⟨(Row A (rows ps)).st w w' (fun k hk => h k (.inl hk)) hP.1, fun p hp => (Row p.a (rows p.l)).st w w' (fun k hk => h k (.inr ⟨p, hp, hk⟩)) (hP.2 p hp)⟩
  lt w hP k hk := by
    rcases hk with hk | ⟨p, hp, hk⟩
    · exact (Row A (rows ps)).lt w hP.1 k hk
    exact (Row p.a (rows p.l)).lt w (hP.2 p hp) k hk
section
variable {c : Cx} {Q : Exit → Act → World → Prop} {fr : Fr} {hp : Hp} {L : List Fact} {ops : Array Oper} {rest : List Oper}
theorem kj3 {α : Type} [El α] {b : Bx} {w : World} {A : Option Addr} {ps : List (Sl α)} (h : Rows2 A ps ∈ L) (hw : WI b w hp L) : WI b w hp (Row A (rows ps) :: L) :=
  S5 hw (hw.fs _ h).1 (fun k hk => ⟨_, h, .inl hk⟩)
theorem kj5 {α : Type} [El α] {b : Bx} {w : World} {A : Option Addr} {ps : List (Sl α)} {p : Sl α} (h : Rows2 A ps ∈ L) (hp' : p ∈ ps) (hw : WI b w hp L) : WI b w hp (Row p.a (rows p.l) :: L) :=
  S5 hw ((hw.fs _ h).2 p hp') (fun k hk => ⟨_, h, .inr ⟨p, hp', hk⟩⟩)
theorem dz6 {α : Type} [El α] {A : Option Addr} {ps : List (Sl α)} {x : Code} (h : Rows2 A ps ∈ L) (k : HC c x Q fr hp (Row A (rows ps) :: L)) : HC c x Q fr hp L := fun a w ha hw => k a w ha (kj3 h hw)
theorem dz3 {α : Type} [El α] {A : Option Addr} {ps : List (Sl α)} {p : Sl α} (h : Rows2 A ps ∈ L) (hp' : p ∈ ps) (k : HL c ops Q rest fr hp (Row p.a (rows p.l) :: L)) : HL c ops Q rest fr hp L := fun a w ha hw => k a w ha (kj5 h hp' hw)
variable {d : Tmp} {ty : TypeId} {pos : String} {af : Array Edge}
theorem p_t {x y z : Operand} {v : Value} {b : Bool} (hd : Nat.blt d c.n = true) (hx : ev fr x = some (.bool b)) (hb : b = true) (hy : ev fr y = some v) (k : HL c ops Q rest ((d, v) :: fr) hp L) : HL c ops Q (⟨some d, .pick x y z, ty, pos, af, none⟩ :: rest) fr hp L := by
  subst hb; exact kq9 hd hx hy k
theorem p_f {x y z : Operand} {v : Value} {b : Bool} (hd : Nat.blt d c.n = true) (hx : ev fr x = some (.bool b)) (hb : b = false) (hz : ev fr z = some v) (k : HL c ops Q rest ((d, v) :: fr) hp L) : HL c ops Q (⟨some d, .pick x y z, ty, pos, af, none⟩ :: rest) fr hp L := by
  subst hb; exact kx0 hd hx hz k
theorem c_t {x : Operand} {b : Bool} {thn els : Code} (hx : ev fr x = some (.bool b)) (hb : b = true) (ht : HC c thn Q fr hp L) : HC c (.cond x thn els) Q fr hp L := by subst hb; exact jx5 hx ht
theorem c_f {x : Operand} {b : Bool} {thn els : Code} (hx : ev fr x = some (.bool b)) (hb : b = false) (hf : HC c els Q fr hp L) : HC c (.cond x thn els) Q fr hp L := by subst hb; exact jx6 hx hf
theorem bt1 {b : Bool} (h : (b == true) = true) : b = true := by cases b <;> simp_all
theorem bt2 {b : Bool} (h : (b == false) = false) : b = true := by cases b <;> simp_all
theorem bf1 {b : Bool} (h : (b == false) = true) : b = false := by cases b <;> simp_all
theorem bf2 {b : Bool} (h : (b == true) = false) : b = false := by cases b <;> simp_all
theorem gy {b : Bool} (h : (b == true) = false) : (b == false) = true := by cases b <;> simp_all
theorem N9 {o : Oper} {j : Nat} {want : Bool} {t : Tmp} {v : Value} (ho : o.dst = some d) (hg : o.guard = some (j, want)) (hd : Nat.blt d c.n = true) (hj : (ops[j]?).bind (·.dst) = some t) (hv : lk fr t = some v) (hu : v = undef)
    (k : HL c ops Q rest ((d, undef) :: fr) hp L) : HL c ops Q (o :: rest) fr hp L := by
  subst hu; intro a w ha hw; refine dj1 ?_ ?_
  · rw [Region.wanted, hg]
    show (yielded ops a.tmps j == some want) = false; have h1 := ha.at_ t _ hv
    have : yielded ops a.tmps j = none := by
      unfold yielded; rw [hj]; simp only [Option.bind_some]
      cases h2 : a.tmps[t]? with
      | none => rfl
      | some u => simp [Array.getD_eq_getD_getElem?, h2, undef] at h1; rw [h1]
    rw [this]; rfl
  rw [ho]; exact k _ _ (ha.put (by simpa using hd) _) hw
theorem v4 {dst : Option Tmp} {op : Op} {j : Nat} {want b : Bool} {t : Tmp} (hj : (ops[j]?).bind (·.dst) = some t) (hv : lk fr t = some (.bool b))
    (hy : (b == want) = true → HL c ops Q (⟨dst, op, ty, pos, af, some (j, want)⟩ :: rest) fr hp L) (hn : (b == want) = false → HL c ops Q (⟨dst, op, ty, pos, af, some (j, want)⟩ :: rest) fr hp L) :
    HL c ops Q (⟨dst, op, ty, pos, af, some (j, want)⟩ :: rest) fr hp L := by
  cases hb : (b == want)
  · exact hn hb
  exact hy hb
theorem N5 {O0 : Hp} {K : Env → Prop} {r : List Oper} {E : Env} {want b : Bool} {t : Tmp} (hv : lkE E t = some (.ex (.bool b))) (hy : (b == want) = true → HB c ops fr O0 hp L K r E) (hn : (b == want) = false → HB c ops fr O0 hp L K r E) : HB c ops fr O0 hp L K r E := by
  cases hb : (b == want)
  · exact hn hb
  exact hy hb
theorem k6 {x : Operand} {p : Prop} [Decidable p] {thn els : Code} (hx : ev fr x = some (.bool (decide p))) (ht : p → HC c thn Q fr hp L) (hf : ¬ p → HC c els Q fr hp L) : HC c (.cond x thn els) Q fr hp L :=
  i6 hx (fun h => ht (of_decide_eq_true h)) (fun h => hf (of_decide_eq_false h))
end
theorem m0 {α : Type u} {a  : α} {l : List α} : a ∈ a :: l := .head _
theorem m1 {α : Type u} {a x0 : α} {l : List α} : a ∈ x0 :: a :: l := .tail _ (.head _)
theorem m2 {α : Type u} {a x0 x1 : α} {l : List α} : a ∈ x0 :: x1 :: a :: l := .tail _ (.tail _ (.head _))
theorem m3 {α : Type u} {a x0 x1 x2 : α} {l : List α} : a ∈ x0 :: x1 :: x2 :: a :: l := .tail _ (.tail _ (.tail _ (.head _)))
theorem m4 {α : Type u} {a x0 x1 x2 x3 : α} {l : List α} : a ∈ x0 :: x1 :: x2 :: x3 :: a :: l := .tail _ (.tail _ (.tail _ (.tail _ (.head _))))
theorem m5 {α : Type u} {a x0 x1 x2 x3 x4 : α} {l : List α} : a ∈ x0 :: x1 :: x2 :: x3 :: x4 :: a :: l := .tail _ (.tail _ (.tail _ (.tail _ (.tail _ (.head _)))))
theorem m8 {α : Type u} {a x0 x1 x2 x3 x4 x5 x6 x7 : α} {l : List α} : a ∈ x0 :: x1 :: x2 :: x3 :: x4 :: x5 :: x6 :: x7 :: a :: l := .tail _ (.tail _ (.tail _ (.tail _ (.tail _ (.tail _ (.tail _ (.tail _ (.head _))))))))
theorem perm3 {α : Type} (a b c : α) (l : List α) : (a :: b :: c :: l).Perm (c :: a :: b :: l) := by
  have h1 : (a :: b :: c :: l).Perm (a :: c :: b :: l) := (List.Perm.swap c b l).cons a; exact h1.trans (.swap c a _)
theorem perm2 {α : Type} (a b : α) (l : List α) : (a :: b :: l).Perm (b :: a :: l) := .swap b a l
theorem perm4 {α : Type} (a b c d : α) (l : List α) : (a :: b :: c :: d :: l).Perm (d :: a :: b :: c :: l) := ((perm3 b c d l).cons a).trans (.swap d a _)
end Go.W
end
namespace Go.W
theorem aJ {l l' : Hp} (h : List.Perm l l' := by first | exact .refl _ | exact perm2 _ _ _ | exact perm3 _ _ _ _ | exact perm4 _ _ _ _ _) : List.Perm l l' := h
theorem mj0 {b : Bool} (h : b = true := by first | rfl | assumption | exact bt1 (by assumption) | exact bt2 (by assumption)) : b = true := h
theorem bf_x {b : Bool} (h : b = false := by first | rfl | assumption | exact bf1 (by assumption) | exact bf2 (by assumption)) : b = false := h
theorem ret_u {k : Con Unit} {c : Cx} {fr : Fr} {hp : Hp} {L : List Fact} {fn : Func} {w0 : World} {t : Tmp} (hres : fn.results = #[.tmp t] := by exact rfl) (hv : lk fr t = some (k.val ()) := by exact rfl) (hb : c.b = k.entry w0 := by exact rfl) (hi : k.inv () := by exact trivial) (hh : (k.hpO ()).Sublist hp := by exact nK) (hL : LSub L (k.LO ()) := by exact trivial) (hD : c.D = [] := by exact rfl) : HQ c (bodyPost c.P fn (k.post w0)) .ret fr hp L := ret1 () hres hv hb hi hh hL hD
end Go.W
section
namespace Go.W
open Go Go.RowKit
section
variable {c : Cx} {Q : Exit → Act → World → Prop} {fr : Fr} {hp : Hp} {L : List Fact} {ops : Array Oper} {rest : List Oper}
variable {d : Tmp} {ty : TypeId} {pos : String} {af : Array Edge}
theorem D1 {t e : TypeId} {x : Operand} {g : Nat} {cs : Array Value} {fz : Nat × Nat} {n : Nat} (hd : Nat.blt d c.n = true) (ht' : IsR c.P t) (hz' : Sz c.P t n) (hx : ev fr x = some (.pointer (c5 g))) (h : (g, Obj.cells cs e fz) ∈ hp) (hn : cs.size = n)
    (k : HL c ops Q rest ((d, .agg cs) :: fr) hp L) : HL c ops Q (⟨some d, .load t x, ty, pos, af, none⟩ :: rest) fr hp L :=
  u0 (cs := cs.toList) hd ht' hz' hx (by simpa using hn) (yP h (fun i u hu => by simpa using hu)) k
end
end Go.W
end
section
namespace Go.W
open Go Go.RowKit
abbrev Ment (κ : Type) := κ × Value × Nat
def entOf {κ : Type} (enc : κ → Value) (p : Ment κ) : MapEntry := ⟨enc p.1, p.2.1, p.2.2⟩
def mapO {κ : Type} (enc : κ → Value) (l : List (Ment κ)) (clk : Nat) : Obj := .map (l.map (entOf enc)).toArray clk
def findM {κ : Type} [DecidableEq κ] (k : κ) : List (Ment κ) → Nat → Option (Nat × Value)
  | [], _ => none
  | p :: l, i => if p.1 = k then some (i, p.2.1) else findM k l (i + 1)
def getM {κ : Type} [DecidableEq κ] (l : List (Ment κ)) (k : κ) : Option Value := (findM k l 0).map (·.2)
def putM {κ : Type} [DecidableEq κ] (l : List (Ment κ)) (k : κ) (v : Value) (clk : Nat) : List (Ment κ) :=
  match findM k l 0 with
  | some (i, _) => l.modify i fun p => (k, v, p.2.2)
  | none => l ++ [(k, v, clk)]
def clkM {κ : Type} [DecidableEq κ] (l : List (Ment κ)) (k : κ) (clk : Nat) : Nat := if (findM k l 0).isSome then clk else clk + 1
structure KeyC (P : Program) (kt : TypeId) {κ : Type} [DecidableEq κ] (enc : κ → Value) : Prop where
  chk : ∀ b k w, (Instr.checkKey b 10000 kt (enc k)).run P w = .ok () w
  find : ∀ k l w, (Instr.findKey kt (enc k) (l.map (entOf enc))).run P w = .ok (findM k l 0) w
  stays : ∀ k w, (Instr.keyThatStays (enc k) (enc k)).run P w = .ok (enc k) w
theorem yZ (k : Int) : ∀ (l : List (Ment Int)) (i : Nat), Instr.findNow (.int .i64) (int k) (l.map (entOf int)) i = some (findM k l i)
  | [], i => rfl
  | p :: l, i => by
    rw [List.map_cons, Instr.findNow]; simp only [Instr.sameNow, entOf, findM]
    by_cases h : p.1 = k
    · simp [h]
    have h' : ¬ k = p.1 := fun e => h e.symm; simp only [if_true, h, if_false, beq_eq_false_iff_ne.2 h']; exact yZ k l (i + 1)
theorem yY (k : Str) : ∀ (l : List (Ment Str)) (i : Nat), Instr.findNow .string (str k) (l.map (entOf str)) i = some (findM k l i)
  | [], i => rfl
  | p :: l, i => by
    rw [List.map_cons, Instr.findNow]; simp only [str, Instr.sameNow, entOf, findM]
    have hb : ((ByteArray.mk k.toArray) == ByteArray.mk p.1.toArray) = decide (p.1 = k) := by
      rw [Bool.eq_iff_iff, MapKept.bytes_beq, decide_eq_true_iff]
      constructor
      · intro e
        injection e with e
        have := congrArg Array.toList e
        simpa using this.symm
      intro e; rw [e]
    rw [hb]
    by_cases h : p.1 = k
    · simp [h]
    simp only [h, decide_false, if_false]; exact yY k l (i + 1)
theorem KeyC.int {P : Program} {kt : TypeId} (h : P.underlying kt = some (.int .i64)) : KeyC P kt W.int where
  chk b k w := MapKept.run_checkKey h (by simp [MapKept.IsKey]) b 9999
  find k l w := MapKept.run_findKey h (yZ k l 0)
  stays k w := MapKept.run_keyThatStays (d := .int .i64) (by simp [MapKept.IsKey])
theorem KeyC.str {P : Program} {kt : TypeId} (h : P.underlying kt = some .string) : KeyC P kt W.str where
  chk b k w := MapKept.run_checkKey h (by simp [MapKept.IsKey, W.str]) b 9999
  find k l w := MapKept.run_findKey h (yY k l 0)
  stays k w := MapKept.run_keyThatStays (d := .string) (by simp [MapKept.IsKey, W.str])
def pair (p : Int × Int) : Value := .agg #[W.int p.1, W.int p.2]
theorem lM {P : Program} {e : TypeId} (he : P.underlying e = some (.int .i64)) (cs : Array Value) (i : Nat) (v : Value) (hv : cs[i]? = some v) (w : World) : (part e cs i).run P w = .ok v w := by
  have hagg : (isAgg e).run P w = .ok false w := by
    unfold isAgg; rw [Sem.run_bind, run_underlying he w]
    rfl
  simp [part, Sem.run_bind, hagg, hv]
theorem hx6 {P : Program} {e : TypeId} (he : P.underlying e = some (.int .i64)) (d : Nat) (a b : Int) (w : World) : (Op.equalIn (d + 1) e (W.int a) (W.int b)).run P w = .ok (a == b) w := by
  simp [Op.equalIn, run_underlying he]
theorem eq_pair {P : Program} {kt e : TypeId} (h : P.underlying kt = some (.array 2 e)) (he : P.underlying e = some (.int .i64)) (hz : Sz P e 1) (p q : Int × Int) (w : World) : (Op.equal kt (pair p) (pair q)).run P w = .ok (decide (p = q)) w := by
  have hs := bP hz w
  have key : ∀ d, (Op.equalIn (d + 2) kt (pair p) (pair q)).run P w = .ok (decide (p = q)) w := by
    intro d; obtain ⟨a, b⟩ := p; obtain ⟨a', b'⟩ := q; have p0 := lM he #[W.int a, W.int b] 0 (W.int a) rfl w; have p1 := lM he #[W.int a, W.int b] 1 (W.int b) rfl w; have q0 := lM he #[W.int a', W.int b'] 0 (W.int a') rfl w; have q1 := lM he #[W.int a', W.int b'] 1 (W.int b') rfl w; unfold Op.equalIn; simp only [Sem.run_bind, run_underlying h, pair, hs, Result.andThen_ok, Std.Legacy.Range.forIn_eq_forIn_range', Std.Legacy.Range.size, Nat.sub_zero, Nat.reduceAdd, Nat.reduceSub, Nat.reduceDiv, List.range', List.forIn_cons, List.forIn_nil, Nat.zero_mul, Nat.mul_one, Nat.zero_add, p0, p1, q0, q1, hx6 he d]
    by_cases h1 : a = a'
    · subst h1
      by_cases h2 : b = b'
      · subst h2; simp [p1, hx6 he d]
      simp [h2, p1, q1, hx6 he d]
    simp [h1]
  exact key 9998
theorem az4 {P : Program} {kt e : TypeId} (h : P.underlying kt = some (.array 2 e)) (he : P.underlying e = some (.int .i64)) (hz : Sz P e 1) (k : Int × Int) (w : World) : ∀ (l : List (Ment (Int × Int))) (i : Nat), (Instr.findAsking kt (pair k) (l.map (entOf pair)) i).run P w = .ok (findM k l i) w
  | [], i => rfl
  | p :: l, i => by
    rw [List.map_cons, Instr.findAsking]; simp only [Sem.run_bind, entOf, eq_pair h he hz, Result.andThen_ok, findM]
    by_cases hk : p.1 = k
    · simp [hk]
    have h' : ¬ k = p.1 := fun e => hk e.symm; simp only [hk, h', decide_false, Bool.false_eq_true, if_false]; exact az4 h he hz k w l (i + 1)
theorem KeyC.pair {P : Program} {kt e : TypeId} (h : P.underlying kt = some (.array 2 e)) (he : P.underlying e = some (.int .i64)) (hz : Sz P e 1) : KeyC P kt W.pair where
  chk b k w := by
    have hs := bP hz w; have p0 := lM he #[W.int k.1, W.int k.2] 0 (W.int k.1) rfl w; have p1 := lM he #[W.int k.1, W.int k.2] 1 (W.int k.2) rfl w; have c : ∀ (n : Int), (Instr.checkKey b 9999 e (W.int n)).run P w = .ok () w := fun n => MapKept.run_checkKey he (by simp [MapKept.IsKey]) b 9998; unfold Instr.checkKey
    simp [run_underlying h, W.pair, hs, Std.Legacy.Range.forIn_eq_forIn_range', List.range', p0, p1, c]
  find k l w := by
    unfold Instr.findKey; simp only [Sem.run_bind, run_underlying h, Result.andThen_ok]
    have : Instr.findNow (.array 2 e) (W.pair k) (l.map (entOf W.pair)) 0 = none ∨ (l = [] ∧ Instr.findNow (.array 2 e) (W.pair k) (l.map (entOf W.pair)) 0 = some none) := by
      cases l with
      | nil => exact .inr ⟨rfl, rfl⟩
      | cons p l => exact .inl rfl
    rcases this with h1 | ⟨rfl, h1⟩
    · rw [h1]
      exact az4 h he hz k w l 0
    rw [h1]; rfl
  stays k w := by
    obtain ⟨a, b⟩ := k
    have : Instr.sameBits 10000 (W.pair (a, b)) (W.pair (a, b)) = true := by
      simp [Instr.sameBits, W.pair]
    unfold Instr.keyThatStays; rw [if_pos this]
    rfl
/-! ### Cuts aS9 facts; perms -/
theorem A6 {α : Type} {l l' : List α} (h : ∀ p : α → Bool, l.countP p = l'.countP p) : l.Perm l' := by
  classical
  refine List.perm_iff_count.2 fun a => ?_
  simpa [List.count] using h (· == a)
theorem pm3 {α : Type} (l : List α) (a b c : α) : (a :: (l ++ [b, c])).Perm (l ++ [a, b, c]) := A6 fun p => by simp only [List.countP_append, List.countP_cons, List.countP_nil]; omega
theorem pm4 {α : Type} (l : List α) (a b c : α) : (l ++ [a, b, c]).Perm (a :: (l ++ [b, c])) := (pm3 l a b c).symm
theorem lz7 {α : Type} [El α] {A : Option Addr} {p : List α} {ca lo hi : Nat} {w : World} (h : (Row A (rows p)).P w) (hc : p.length ≤ ca) : (Row (cutA A ca lo (El.sz α)) (rows ((p.take hi).drop lo))).P w := by
  refine cut_row h (fun j u hj => ?_) (fun hne => ?_)
  · rw [← xE, ← xD, List.getElem?_drop, List.getElem?_take] at hj
    split at hj
    · exact hj
    cases hj
  rcases Nat.lt_or_ge lo p.length with h | h
  · omega
  have : (p.take hi).drop lo = [] := List.drop_eq_nil_of_le (by rw [List.length_take]; omega); rw [this] at hne; exact absurd rfl hne
theorem wi_cut {α : Type} [El α] {b : Bx} {hp : Hp} {L : List Fact} {A : Option Addr} {p : List α} {ca : Nat} {w : World} (lo hi : Nat) (h : Row A (rows p) ∈ L) (hc : p.length ≤ ca) (hw : WI b w hp L) : WI b w hp (Row (cutA A ca lo (El.sz α)) (rows ((p.take hi).drop lo)) :: L) :=
  S5 hw (lz7 (hw.fs _ h) hc) (fun k hk => ⟨_, h, by
    obtain ⟨ad, e, hb⟩ := cut_fp hk; refine ⟨ad, e, hb, ?_⟩; obtain ⟨_, _, _, hne⟩ := hk; rintro h0
    apply hne
    rw [← xE, ← xD, h0]
    simp⟩)
section
variable {c : Cx} {Q : Exit → Act → World → Prop} {fr : Fr} {hp : Hp} {L : List Fact} {ops : Array Oper} {rest : List Oper}
theorem lO {e : TypeId} {sz n cap : Nat} {A : Option Addr} {xs : List Value} {og : Hp} {x : Exit} (hG : Grow e sz A n cap xs og) (k : HQ c Q x fr [] (Row A xs :: L)) : HQ c Q x fr og L := fun a w ha hw => k a w ha (uQ hG (by simpa using hw))
theorem xO {α : Type} [El α] {A : Option Addr} {p : List α} {ca : Nat} (lo hi : Nat) (h : Row A (rows p) ∈ L) (hc : p.length ≤ ca) (k : HL c ops Q rest fr hp (Row (cutA A ca lo (El.sz α)) (rows ((p.take hi).drop lo)) :: L)) : HL c ops Q rest fr hp L :=
  fun a w ha hw => k a w ha (wi_cut lo hi h hc hw)
end
/-! ### The rules -/
def MapAt (b : Bx) (hp : Hp) (L : List Fact) (g : Nat) (o : Obj) : Prop := ∀ w, WI b w hp L → w.heap[g]? = some o
section
variable {κ : Type} [DecidableEq κ] {enc : κ → Value} {kt e : TypeId}
theorem map_own {b : Bx} {hp : Hp} {L : List Fact} {g : Nat} {o : Obj} (h : (g, o) ∈ hp) : MapAt b hp L g o := fun w hw => hw.own _ h
theorem rX {b : Bx} {hp : Hp} {L : List Fact} {g : Nat} {o : Obj} (h : Blk g o ∈ L) : MapAt b hp L g o := fun w hw => hw.fs _ h
variable {c : Cx} {Q : Exit → Act → World → Prop} {fr : Fr} {hp : Hp} {L : List Fact} {ops : Array Oper} {rest : List Oper}
variable {d : Tmp} {ty : TypeId} {pos : String} {af : Array Edge}
theorem bQ {P : Program} {t : TypeId} (K : KeyC P kt enc) (ht : P.underlying t = some (.map kt e)) {g : Nat} {l : List (Ment κ)} {clk : Nat} {k : κ} {w : World} (hb : w.heap[g]? = some (mapO enc l clk)) (ok : Bool) :
    ((getM l k).isSome = true → (Instr.lookup t (.map (some g)) (enc k) ok).run P w = .ok (if ok then .tuple #[(getM l k).getD undef, .bool true] else (getM l k).getD undef) w) ∧
    ∀ z, (zeroValue e).run P w = .ok z w → getM l k = none → (Instr.lookup t (.map (some g)) (enc k) ok).run P w = .ok (if ok then .tuple #[z, .bool false] else z) w := by
  have hf := K.find k l w; have hc := fun b => K.chk b k w; unfold getM
  cases hr : findM k l 0 with
  | none =>
    rw [hr] at hf; refine ⟨fun h => by simp at h, fun z hz _ => ?_⟩
    simp [Instr.lookup, run_underlying ht, MapKept.run_getObj_map (show w.heap[g]? = some (.map _ _) from hb), hc, hf, hz]
  | some p =>
    obtain ⟨i, v⟩ := p; rw [hr] at hf; refine ⟨fun _ => ?_, fun z hz h => by simp at h⟩
    simp [Instr.lookup, run_underlying ht, MapKept.run_getObj_map (show w.heap[g]? = some (.map _ _) from hb), hc, hf]
theorem r_look {t : TypeId} {x y : Operand} {g : Nat} {l : List (Ment κ)} {clk : Nat} {k : κ} {v : Value} (K : KeyC c.P kt enc) (hd : Nat.blt d c.n = true) (ht : c.P.underlying t = some (.map kt e)) (hx : ev fr x = some (.map (some g))) (hy : ev fr y = some (enc k)) (hm : MapAt c.b hp L g (mapO enc l clk))
    (hv : getM l k = some v) (kk : HL c ops Q rest ((d, v) :: fr) hp L) : HL c ops Q (⟨some d, .lookup t x y false, ty, pos, af, none⟩ :: rest) fr hp L :=
  B1 _ rfl rfl hd (fun a w ha hw => by
    have := (bQ (k := k) K ht (hm w hw) false).1 (by simp [hv]); simp only [hv, Option.getD_some, Bool.false_eq_true, if_false] at this
    simp only [execOp, ha.ev hx, ha.ev hy, Sem.run_bind, this, Result.andThen_ok, Sem.run_pure]) kk
theorem r_look0 {t : TypeId} {x y : Operand} {g : Nat} {l : List (Ment κ)} {clk : Nat} {k : κ} {z : Value} (K : KeyC c.P kt enc) (hd : Nat.blt d c.n = true) (ht : c.P.underlying t = some (.map kt e)) (hx : ev fr x = some (.map (some g))) (hy : ev fr y = some (enc k)) (hm : MapAt c.b hp L g (mapO enc l clk))
    (hz : ∀ w, (zeroValue e).run c.P w = .ok z w) (hv : getM l k = none) (kk : HL c ops Q rest ((d, z) :: fr) hp L) : HL c ops Q (⟨some d, .lookup t x y false, ty, pos, af, none⟩ :: rest) fr hp L :=
  B1 _ rfl rfl hd (fun a w ha hw => by
    have := (bQ (k := k) K ht (hm w hw) false).2 z (hz w) hv; simp only [Bool.false_eq_true, if_false] at this
    simp only [execOp, ha.ev hx, ha.ev hy, Sem.run_bind, this, Result.andThen_ok, Sem.run_pure]) kk
theorem qP {t : TypeId} {x y : Operand} {g : Nat} {l : List (Ment κ)} {clk : Nat} {k : κ} {v : Value} (K : KeyC c.P kt enc) (hd : Nat.blt d c.n = true) (ht : c.P.underlying t = some (.map kt e)) (hx : ev fr x = some (.map (some g))) (hy : ev fr y = some (enc k)) (hm : MapAt c.b hp L g (mapO enc l clk))
    (hv : getM l k = some v) (kk : HL c ops Q rest ((d, .tuple #[v, .bool true]) :: fr) hp L) : HL c ops Q (⟨some d, .lookup t x y true, ty, pos, af, none⟩ :: rest) fr hp L :=
  B1 _ rfl rfl hd (fun a w ha hw => by
    have := (bQ (k := k) K ht (hm w hw) true).1 (by simp [hv]); simp only [hv, Option.getD_some, if_true] at this
    simp only [execOp, ha.ev hx, ha.ev hy, Sem.run_bind, this, Result.andThen_ok, Sem.run_pure]) kk
theorem jj9 {t : TypeId} {x y : Operand} {g : Nat} {l : List (Ment κ)} {clk : Nat} {k : κ} {z : Value} (K : KeyC c.P kt enc) (hd : Nat.blt d c.n = true) (ht : c.P.underlying t = some (.map kt e)) (hx : ev fr x = some (.map (some g))) (hy : ev fr y = some (enc k)) (hm : MapAt c.b hp L g (mapO enc l clk))
    (hz : ∀ w, (zeroValue e).run c.P w = .ok z w) (hv : getM l k = none) (kk : HL c ops Q rest ((d, .tuple #[z, .bool false]) :: fr) hp L) : HL c ops Q (⟨some d, .lookup t x y true, ty, pos, af, none⟩ :: rest) fr hp L :=
  B1 _ rfl rfl hd (fun a w ha hw => by
    have := (bQ (k := k) K ht (hm w hw) true).2 z (hz w) hv; simp only [if_true] at this
    simp only [execOp, ha.ev hx, ha.ev hy, Sem.run_bind, this, Result.andThen_ok, Sem.run_pure]) kk
theorem gj3 {k : κ} : ∀ (l : List (Ment κ)) (i j : Nat) (v : Value), findM k l i = some (j, v) → ∃ m p, j = i + m ∧ l[m]? = some p ∧ p.1 = k ∧ p.2.1 = v
  | [], i, j, v, h => by simp [findM] at h
  | p :: l, i, j, v, h => by
    rw [findM] at h
    split at h
    · rename_i e
      simp only [Option.some.injEq, Prod.mk.injEq] at h; exact ⟨0, p, by omega, rfl, e, h.2⟩
    obtain ⟨m, q, h1, h2, h3⟩ := gj3 l (i + 1) j v h; exact ⟨m + 1, q, by omega, by simpa using h2, h3⟩
omit [DecidableEq κ] in
theorem aq8 {l : List (Ment κ)} {i : Nat} {k : κ} {v : Value} {p : Ment κ} (hp : l[i]? = some p) :
    ((l.map (entOf enc)).toArray.modify i fun x => { x with key := enc k, val := v }) = ((l.modify i fun p => (k, v, p.2.2)).map (entOf enc)).toArray := by
  apply Array.ext'
  simp only [Array.toList_modify]
  apply List.ext_getElem?
  intro n; simp only [List.getElem?_modify, List.getElem?_map]
  split
  · cases hl : l[n]? <;> simp [entOf]
  simp
theorem qQ {t : TypeId} {x y z : Operand} {g : Nat} {l : List (Ment κ)} {clk : Nat} {k : κ} {v : Value} {hp' : Hp} {o : Op} (K : KeyC c.P kt enc) (ho : o = .mapUpdate t x y z ∨ o = .insert t x y z) (ht : c.P.underlying t = some (.map kt e)) (hx : ev fr x = some (.map (some g))) (hy : ev fr y = some (enc k)) (hz : ev fr z = some v)
    (hpp : hp.Perm ((g, mapO enc l clk) :: hp')) (kk : HL c ops Q rest fr ((g, mapO enc (putM l k v clk) (clkM l k clk)) :: hp') L) : HL c ops Q (⟨none, o, ty, pos, af, none⟩ :: rest) fr hp L :=
  cx7 rfl rfl fun a w ha hw => by
    have hw' := hw.perm hpp; have hg := hw'.own (g, mapO enc l clk) (by simp); have hg' : w.heap[g]? = some (.map (l.map (entOf enc)).toArray clk) := hg; have hf := K.find k l w
    have hrun : (Instr.mapUpdate t (.map (some g)) (enc k) v).run c.P w = .ok () { w with heap := w.heap.setIfInBounds g (mapO enc (putM l k v clk) (clkM l k clk)) } := by
      unfold putM clkM
      cases hr : findM k l 0 with
      | none =>
        rw [hr] at hf; simp only [Instr.mapUpdate, Sem.run_bind, run_underlying ht, Result.andThen_ok, MapKept.run_getObj_map hg', K.chk, hf, MapKept.run_setObj_map _ hg']
        have : ((l.map (entOf enc)).toArray.push { key := enc k, val := v, born := clk }) = ((l ++ [(k, v, clk)]).map (entOf enc)).toArray := by
          apply Array.ext'; simp [entOf]
        rw [this]
        rfl
      | some p =>
        obtain ⟨i, u⟩ := p; rw [hr] at hf; obtain ⟨m, q, h1, h2, h3, h4⟩ := gj3 l 0 i u hr; have e1 : i = m := by omega
        subst e1
        have e2 : (((l.map (entOf enc)).toArray[i]?).map (·.key)).getD (enc k) = enc k := by
          simp [h2, entOf, h3]
        simp only [Instr.mapUpdate, Sem.run_bind, run_underlying ht, Result.andThen_ok, MapKept.run_getObj_map hg', K.chk, hf, e2, K.stays, MapKept.run_setObj_map _ hg', aq8 h2]
        rfl
    refine ⟨{ w with heap := w.heap.setIfInBounds g (mapO enc (putM l k v clk) (clkM l k clk)) }, _, L, ?_, hw'.write (o' := mapO enc (putM l k v clk) (clkM l k clk)) ⟨rfl, rfl, rfl, by simp, fun j hj hn => by simp only [List.mem_singleton] at hn; simp [Array.getElem?_setIfInBounds_ne (Ne.symm hn)], Nat.le_refl _⟩ ?_, kk⟩
    · rcases ho with rfl | rfl <;> simp only [execOp, ha.ev hx, ha.ev hy, ha.ev hz, Sem.run_bind, hrun, Result.andThen_ok, Sem.run_pure]
    have := lt_of_own hg; simp only at this
    simp [this]
omit [DecidableEq κ] in
theorem aq2 (enc : κ → Value) {t : TypeId} (hd : Nat.blt d c.n = true) (k : ∀ g, HL c ops Q rest ((d, .map (some g)) :: fr) ((g, mapO enc [] 0) :: hp) L) : HL c ops Q (⟨some d, .makeMap t none, ty, pos, af, none⟩ :: rest) fr hp L :=
  jj8 hd k
theorem uM {k : κ} : ∀ (l : List (Ment κ)) (i : Nat), findM k l (i + 1) = (findM k l i).map fun p => (p.1 + 1, p.2)
  | [], i => rfl
  | p :: l, i => by
    simp only [findM]
    split
    · rfl
    exact uM l (i + 1)
theorem W0 (p : Ment κ) (l : List (Ment κ)) (k : κ) : getM (p :: l) k = if p.1 = k then some p.2.1 else getM l k := by
  unfold getM; simp only [findM]
  split
  · rfl
  rw [uM]; cases findM k l 0 <;> rfl
theorem lx2 (l : List (Ment κ)) (k k' : κ) (v : Value) (clk : Nat) : getM (putM l k v clk) k' = if k = k' then some v else getM l k' := by
  induction l with
  | nil => simp [putM, findM, W0, getM]
  | cons p l ih =>
    by_cases h : p.1 = k
    · have : putM (p :: l) k v clk = (k, v, p.2.2) :: l := by simp [putM, findM, h]
      rw [this, W0, W0]; simp only [h]
      split <;> rfl
    have : putM (p :: l) k v clk = p :: putM l k v clk := by
      simp only [putM, findM, h, if_false]; rw [uM]
      cases hf : findM k l 0 with
      | none => simp
      | some q => simp
    rw [this, W0, ih, W0]
    split
    · rename_i e
      rw [if_neg (fun e' => h (e.trans e'.symm))]
    rfl
end
end Go.W
end
