/- Texts. -/
import Derived.Test.YtdgmfagfpbdbhaaGreatDoorProg
import Derived.KernelRfl
import Derived.Laws.StructEq
import Derived.Laws.IdiomStrings
import Derived.Test.YtdgmfagfpbdbhaaGreatDoorAAc
set_option linter.unusedVariables false
set_option linter.unusedSimpArgs false
section
namespace Go.Proofs.YtdgmfagfpbdbhaaGreatDoor
open Go Go.W Tryz
theorem mixed : prog.follows .mixedOrders = true := w7
namespace F
abbrev kM : Nat := 3
theorem tI : prog.funcs[kM]? = some f3 := func3
abbrev kq0 : Nat := 4
abbrev mF : Nat := 5
theorem bq0 : prog.funcs[mF]? = some f5 := func5
theorem zT : Callable prog mF := D7 func5
abbrev iZ : Nat := 6
theorem xM : prog.funcs[iZ]? = some f6 := func6
theorem bM : Callable prog iZ := D7 func6
abbrev jY : Nat := 7
theorem zW : prog.funcs[jY]? = some f7 := func7
theorem xN : Callable prog jY := D7 func7
abbrev mM : Nat := 8
theorem bq5 : prog.funcs[mM]? = some f8 := func8
theorem zY : Callable prog mM := D7 func8
abbrev aF : Nat := 9
theorem qJ : prog.funcs[aF]? = some f9 := func9
theorem zN : Callable prog aF := D7 func9
abbrev lZ : Nat := 10
theorem bj7 : prog.funcs[lZ]? = some f10 := func10
theorem zS : Callable prog lZ := D7 func10
abbrev mL : Nat := 11
theorem bq4 : prog.funcs[mL]? = some f11 := func11
theorem zX : Callable prog mL := D7 func11
abbrev X7 : Nat := 12
theorem jU : prog.funcs[X7]? = some f12 := func12
theorem bj0 : Callable prog X7 := D7 func12
abbrev pJ : Nat := 13
theorem cq2 : prog.funcs[pJ]? = some f13 := func13
theorem bj8 : Callable prog pJ := D7 func13
abbrev jZ : Nat := 14
theorem zZ : prog.funcs[jZ]? = some f14 := func14
theorem xP : Callable prog jZ := D7 func14
abbrev gK : Nat := 15
theorem bj1 : prog.funcs[gK]? = some f15 := func15
theorem zP : Callable prog gK := D7 func15
abbrev mG : Nat := 16
theorem bq1 : prog.funcs[mG]? = some f16 := func16
theorem M4 : Callable prog mG := D7 func16
abbrev cG : Nat := 17
theorem zQ : prog.funcs[cG]? = some f17 := func17
theorem xE : Callable prog cG := D7 func17
abbrev jF : Nat := 18
theorem cj9 : prog.funcs[jF]? = some f18 := func18
theorem bj2 : Callable prog jF := D7 func18
abbrev kX : Nat := 19
theorem dq6 : prog.funcs[kX]? = some f19 := func19
theorem cj8 : Callable prog kX := D7 func19
abbrev gJ : Nat := 20
theorem az9 : prog.funcs[gJ]? = some f20 := func20
theorem zO : Callable prog gJ := D7 func20
abbrev aT : Nat := 21
theorem xF : prog.funcs[aT]? = some f21 := func21
theorem vU : Callable prog aT := D7 func21
abbrev mH : Nat := 22
theorem bq2 : prog.funcs[mH]? = some f22 := func22
theorem zU : Callable prog mH := D7 func22
abbrev gP : Nat := 23
theorem bq7 : prog.funcs[gP]? = some f23 := func23
theorem aj1 : Callable prog gP := D7 func23
abbrev jG : Nat := 24
theorem cq5 : prog.funcs[jG]? = some f24 := func24
theorem jA : Callable prog jG := D7 func24
abbrev gO : Nat := 25
theorem bq6 : prog.funcs[gO]? = some f25 := func25
theorem aj0 : Callable prog gO := D7 func25
abbrev gQ : Nat := 26
theorem vY : prog.funcs[gQ]? = some f26 := func26
theorem jO : Callable prog gQ := D7 func26
abbrev rT : Nat := 27
theorem dq8 : prog.funcs[rT]? = some f27 := func27
theorem sA : Callable prog rT := D7 func27
abbrev jC : Nat := 28
theorem xS : prog.funcs[jC]? = some f28 := func28
theorem kN : Callable prog jC := D7 func28
abbrev pK : Nat := 29
theorem cq3 : prog.funcs[pK]? = some f29 := func29
theorem bq3 : Callable prog pK := D7 func29
abbrev jX : Nat := 30
theorem zV : prog.funcs[jX]? = some f30 := func30
theorem mJ : Callable prog jX := D7 func30
abbrev mN : Nat := 31
theorem bq8 : prog.funcs[mN]? = some f31 := func31
theorem P5 : Callable prog mN := D7 func31
abbrev jB : Nat := 32
theorem xR : prog.funcs[jB]? = some f32 := func32
theorem bN : Callable prog jB := D7 func32
abbrev lT : Nat := 33
theorem az8 : prog.funcs[lT]? = some f33 := func33
theorem M3 : Callable prog lT := D7 func33
abbrev bD : Nat := 34
theorem sR : prog.funcs[bD]? = some f34 := func34
theorem rD : Callable prog bD := D7 func34
abbrev mD : Nat := 35
theorem bj9 : prog.funcs[mD]? = some f35 := func35
theorem nN : Callable prog mD := D7 func35
abbrev xO : Nat := 36
theorem hz8 : prog.funcs[xO]? = some f36 := func36
theorem wG : Callable prog xO := D7 func36
abbrev bU : Nat := 37
theorem rZ : prog.funcs[bU]? = some f37 := func37
theorem qB : Callable prog bU := D7 func37
abbrev cF : Nat := 38
theorem nH : prog.funcs[cF]? = some f38 := func38
theorem lR : Callable prog cF := D7 func38
abbrev lS : Nat := 39
theorem az7 : prog.funcs[lS]? = some f39 := func39
theorem nI : Callable prog lS := D7 func39
abbrev lX : Nat := 40
theorem bj4 : prog.funcs[lX]? = some f40 := func40
theorem nL : Callable prog lX := D7 func40
abbrev pH : Nat := 41
theorem cq0 : prog.funcs[pH]? = some f41 := func41
theorem bj5 : Callable prog pH := D7 func41
abbrev lY : Nat := 42
theorem bj6 : prog.funcs[lY]? = some f42 := func42
theorem nM : Callable prog lY := D7 func42
abbrev iX : Nat := 43
theorem xK : prog.funcs[iX]? = some f43 := func43
theorem kL : Callable prog iX := D7 func43
abbrev iT : Nat := 44
theorem xD : prog.funcs[iT]? = some f44 := func44
theorem J1 : Callable prog iT := D7 func44
abbrev aE : Nat := 45
theorem rI : prog.funcs[aE]? = some f45 := func45
theorem dF : Callable prog aE := D7 func45
abbrev uM : Nat := 46
theorem dz7 : prog.funcs[uM]? = some f46 := func46
theorem O5 : Callable prog uM := D7 func46
abbrev rS : Nat := 47
theorem dq7 : prog.funcs[rS]? = some f47 := func47
theorem cI : Callable prog rS := D7 func47
abbrev rL : Nat := 48
theorem dq5 : prog.funcs[rL]? = some f48 := func48
theorem jT : Callable prog rL := D7 func48
abbrev aD : Nat := 49
theorem rG : prog.funcs[aD]? = some f49 := func49
theorem dE : Callable prog aD := D7 func49
abbrev cR : Nat := 50
theorem uF : prog.funcs[cR]? = some f50 := func50
theorem sW : Callable prog cR := D7 func50
abbrev gE : Nat := 51
theorem vQ : prog.funcs[gE]? = some f51 := func51
theorem aB : Callable prog gE := D7 func51
abbrev bE : Nat := 52
theorem sS : prog.funcs[bE]? = some f52 := func52
theorem rF : Callable prog bE := D7 func52
abbrev jW : Nat := 53
theorem zR : prog.funcs[jW]? = some f53 := func53
theorem xJ : Callable prog jW := D7 func53
abbrev V6 : Nat := 54
theorem mQ : prog.funcs[V6]? = some f54 := func54
theorem lU : Callable prog V6 := D7 func54
abbrev W7 : Nat := 55
theorem uJ : prog.funcs[W7]? = some f55 := func55
theorem tD : Callable prog W7 := D7 func55
abbrev W9 : Nat := 56
theorem pG : prog.funcs[W9]? = some f56 := func56
theorem mT : Callable prog W9 := D7 func56
abbrev bF : Nat := 57
theorem sV : prog.funcs[bF]? = some f57 := func57
theorem gD : Callable prog bF := D7 func57
abbrev aJ : Nat := 58
theorem rQ : prog.funcs[aJ]? = some f58 := func58
theorem qM : Callable prog aJ := D7 func58
abbrev rU : Nat := 59
theorem dq9 : prog.funcs[rU]? = some f59 := func59
theorem cq4 : Callable prog rU := D7 func59
abbrev kA : Nat := 60
theorem aj2 : prog.funcs[kA]? = some f60 := func60
theorem xQ : Callable prog kA := D7 func60
abbrev Y0 : Nat := 61
theorem qF : prog.funcs[Y0]? = some f61 := func61
theorem pB : Callable prog Y0 := D7 func61
abbrev N9 : Nat := 62
theorem gN : prog.funcs[N9]? = some f62 := func62
theorem z6 : Callable prog N9 := D7 func62
abbrev S6 : Nat := 63
theorem kY : prog.funcs[S6]? = some f63 := func63
theorem jV : Callable prog S6 := D7 func63
abbrev bK : Nat := 64
theorem tG : prog.funcs[bK]? = some f64 := func64
theorem rR : Callable prog bK := D7 func64
abbrev cW : Nat := 65
theorem uK : prog.funcs[cW]? = some f65 := func65
theorem tF : Callable prog cW := D7 func65
abbrev lP : Nat := 66
theorem az5 : prog.funcs[lP]? = some f66 := func66
theorem nG : Callable prog lP := D7 func66
abbrev Z8 : Nat := 67
theorem rC : prog.funcs[Z8]? = some f67 := func67
theorem qA : Callable prog Z8 := D7 func67
abbrev rV : Nat := 68
theorem sC : Callable prog rV := D7 func68
abbrev bH : Nat := 69
theorem tB : prog.funcs[bH]? = some f69 := func69
theorem rK : Callable prog bH := D7 func69
abbrev cU : Nat := 70
theorem uI : prog.funcs[cU]? = some f70 := func70
theorem tA : Callable prog cU := D7 func70
abbrev pI : Nat := 71
theorem cq1 : prog.funcs[pI]? = some f71 := func71
theorem I7 : Callable prog pI := D7 func71
abbrev lW : Nat := 72
theorem bj3 : prog.funcs[lW]? = some f72 := func72
theorem nJ : Callable prog lW := D7 func72
abbrev Z9 : Nat := 73
theorem rE : prog.funcs[Z9]? = some f73 := func73
theorem qD : Callable prog Z9 := D7 func73
abbrev cQ : Nat := 74
theorem uE : prog.funcs[cQ]? = some f74 := func74
theorem sU : Callable prog cQ := D7 func74
abbrev cS : Nat := 75
theorem uG : prog.funcs[cS]? = some f75 := func75
theorem sX : Callable prog cS := D7 func75
abbrev H1 : Nat := 76
theorem gG : prog.funcs[H1]? = some f76 := func76
theorem dD : Callable prog H1 := D7 func76
abbrev bG : Nat := 77
theorem sZ : prog.funcs[bG]? = some f77 := func77
theorem K2 : Callable prog bG := D7 func77
abbrev bC : Nat := 78
theorem sQ : prog.funcs[bC]? = some f78 := func78
theorem dZ : Callable prog bC := D7 func78
abbrev lO : Nat := 79
theorem az4 : prog.funcs[lO]? = some f79 := func79
theorem zL : Callable prog lO := D7 func79
abbrev aG : Nat := 80
theorem rN : prog.funcs[aG]? = some f80 := func80
theorem qK : Callable prog aG := D7 func80
abbrev X9 : Nat := 81
theorem qE : prog.funcs[X9]? = some f81 := func81
theorem bV : Callable prog X9 := D7 func81
abbrev cT : Nat := 82
theorem uH : prog.funcs[cT]? = some f82 := func82
theorem iE : Callable prog cT := D7 func82
abbrev N0 : Nat := 83
theorem dI : prog.funcs[N0]? = some f83 := func83
theorem cV : Callable prog N0 := D7 func83
abbrev iY : Nat := 84
theorem xL : prog.funcs[iY]? = some f84 := func84
theorem vX : Callable prog iY := D7 func84
abbrev L8 : Nat := 85
theorem bY : prog.funcs[L8]? = some f85 := func85
theorem bQ : Callable prog L8 := D7 func85
abbrev cP : Nat := 86
theorem uD : prog.funcs[cP]? = some f86 := func86
theorem sT : Callable prog cP := D7 func86
abbrev I4 : Nat := 87
theorem V5 : prog.funcs[I4]? = some f87 := func87
theorem hU : Callable prog I4 := D7 func87
abbrev iU : Nat := 88
theorem xG : prog.funcs[iU]? = some f88 := func88
theorem J2 : Callable prog iU := D7 func88
abbrev K8 : Nat := 89
theorem N8 : prog.funcs[K8]? = some f89 := func89
theorem zM : Callable prog K8 := D7 func89
abbrev pA : Nat := 90
theorem cj7 : prog.funcs[pA]? = some f90 := func90
theorem aS : Callable prog pA := D7 func90
abbrev pz9 : Nat := 94
abbrev nY : Nat := 95
theorem cj6 : prog.funcs[nY]? = some f95 := func95
theorem H7 : Callable prog nY := D7 func95
abbrev W8 : Nat := 96
theorem pF : prog.funcs[W8]? = some f96 := func96
theorem mS : Callable prog W8 := D7 func96
abbrev K7 : Nat := 97
theorem qH : prog.funcs[K7]? = some f97 := func97
theorem pD : Callable prog K7 := D7 func97
abbrev V7 : Nat := 98
theorem mR : prog.funcs[V7]? = some f98 := func98
theorem lV : Callable prog V7 := D7 func98
abbrev L4 : Nat := 99
theorem rJ : prog.funcs[L4]? = some f99 := func99
theorem qG : Callable prog L4 := D7 func99
abbrev aR : Nat := 100
theorem wY : prog.funcs[aR]? = some f100 := func100
theorem vP : Callable prog aR := D7 func100
abbrev W6 : Nat := 101
theorem uC : prog.funcs[W6]? = some f101 := func101
theorem iD : Callable prog W6 := D7 func101
abbrev L7 : Nat := 102
theorem bX : prog.funcs[L7]? = some f102 := func102
theorem bP : Callable prog L7 := D7 func102
abbrev K3 : Nat := 103
theorem Y8 : prog.funcs[K3]? = some f103 := func103
theorem Y1 : Callable prog K3 := D7 func103
abbrev cX : Nat := 112
theorem uL : prog.funcs[cX]? = some f112 := func112
theorem tH : Callable prog cX := D7 func112
abbrev bI : Nat := 115
theorem tC : prog.funcs[bI]? = some f115 := func115
theorem rM : Callable prog bI := D7 func115
abbrev lQ : Nat := 116
theorem az6 : prog.funcs[lQ]? = some f116 := func116
theorem P4 : Callable prog lQ := D7 func116
abbrev bJ : Nat := 120
theorem tE : prog.funcs[bJ]? = some f120 := func120
theorem rP : Callable prog bJ := D7 func120
abbrev aI : Nat := 121
theorem rO : prog.funcs[aI]? = some f121 := func121
theorem qL : Callable prog aI := D7 func121
abbrev kj9 : Nat := 127
abbrev iW : Nat := 128
theorem xI : prog.funcs[iW]? = some f128 := func128
theorem vW : Callable prog iW := D7 func128
abbrev iV : Nat := 129
theorem xH : prog.funcs[iV]? = some f129 := func129
theorem vV : Callable prog iV := D7 func129
abbrev iS : Nat := 130
theorem xC : prog.funcs[iS]? = some f130 := func130
theorem kK : Callable prog iS := D7 func130
abbrev lN : Nat := 131
theorem az3 : prog.funcs[lN]? = some f131 := func131
theorem zK : Callable prog lN := D7 func131
abbrev iR : Nat := 132
theorem xB : prog.funcs[iR]? = some f132 := func132
theorem vT : Callable prog iR := D7 func132
abbrev iQ : Nat := 133
theorem xA : prog.funcs[iQ]? = some f133 := func133
theorem vS : Callable prog iQ := D7 func133
abbrev iP : Nat := 134
theorem wZ : prog.funcs[iP]? = some f134 := func134
theorem vR : Callable prog iP := D7 func134
abbrev xX : Nat := 136
abbrev wX : Nat := 137
abbrev O6 : Nat := 139
theorem hX : prog.funcs[O6]? = some f139 := func139
theorem gR : Callable prog O6 := D7 func139
abbrev uB : Nat := 140
abbrev L6 : Nat := 141
theorem bW : prog.funcs[L6]? = some f141 := func141
theorem bO : Callable prog L6 := D7 func141
abbrev cx7 : Nat := 143
abbrev sB : Nat := 144
abbrev xT : Nat := 146
abbrev N2 : Nat := 165
theorem qC : prog.funcs[N2]? = some f165 := func165
theorem nZ : Callable prog N2 := D7 func165
abbrev N3 : Nat := 166
theorem qI : prog.funcs[N3]? = some f166 := func166
theorem pE : Callable prog N3 := D7 func166
abbrev Q3 : Nat := 167
theorem sY : prog.funcs[Q3]? = some f167 := func167
theorem rH : Callable prog Q3 := D7 func167
abbrev lj9 : Nat := 190
end F
namespace T
abbrev aU : Nat := 3
theorem tL : prog.underlying aU = some (.int .i64) := underlying3
theorem E1 : Sz prog aU 1 := cN
theorem a8 : NoR prog aU := ⟨_, underlying3, rfl⟩
abbrev gz4 : Nat := 4
theorem kZ : prog.underlying gz4 = some (.bool) := underlying4
theorem q7 : NoR prog gz4 := ⟨_, underlying4, rfl⟩
abbrev mz5 : Nat := 5
theorem yL : prog.underlying mz5 = some (.int .u8) := underlying5
abbrev H2 : Nat := 9
theorem q8 : prog.underlying H2 = some (.string) := underlying9
theorem j6 : Sz prog H2 1 := cN
theorem a9 : NoR prog H2 := ⟨_, underlying9, rfl⟩
abbrev pz5 : Nat := 17
abbrev pz8 : Nat := 20
abbrev qj4 : Nat := 21
abbrev V2 : Nat := 22
theorem n6 : prog.underlying V2 = some (.slice 44) := underlying22
theorem dO : Sz prog V2 1 := cN
theorem b3 : NoR prog V2 := ⟨_, underlying22, rfl⟩
theorem dQ : ElT prog V2 44 2 24 := ElT.of (z := (.agg #[(.string ⟨#[]⟩), (.int .i64 0)])) underlying22 w7 rfl (by decide)
abbrev bT : Nat := 23
theorem n4 : prog.underlying bT = some (.slice 46) := underlying23
theorem V0 : Sz prog bT 1 := cN
theorem b2 : NoR prog bT := ⟨_, underlying23, rfl⟩
theorem Q8 : ElT prog bT 46 4 56 := ElT.of (z := (.agg #[(.string ⟨#[]⟩), (.int .i64 0), (.int .i64 0), (.slice none 0 0)])) underlying23 w7 rfl (by decide)
abbrev p8 : Nat := 25
theorem c7 : Sz prog p8 2 := cN
theorem i6 : IsR prog p8 := ⟨_, underlying25, rfl⟩
abbrev yN : Nat := 26
theorem A8 : prog.underlying yN = some (.slice 3) := underlying26
theorem qT : Sz prog yN 1 := cN
theorem k4 : NoR prog yN := ⟨_, underlying26, rfl⟩
theorem cK : ElT prog yN 3 1 8 := ElT.of (z := (.int .i64 0)) underlying26 w7 rfl (by decide)
abbrev gz6 : Nat := 30
abbrev cj3 : Nat := 32
theorem dL : prog.underlying cj3 = some (.slice 25) := underlying32
abbrev cx0 : Nat := 33
theorem j9 : prog.underlying cx0 = some (.slice 9) := underlying33
theorem wI : Sz prog cx0 1 := cN
theorem U0 : NoR prog cx0 := ⟨_, underlying33, rfl⟩
theorem iH : ElT prog cx0 9 1 16 := ElT.of (z := (.string ⟨#[]⟩)) underlying33 w7 rfl (by decide)
abbrev gz5 : Nat := 34
theorem U1 : NoR prog gz5 := ⟨_, underlying34, rfl⟩
abbrev U2 : Nat := 44
theorem u7 : Sz prog U2 2 := cN
theorem L0 : IsR prog U2 := ⟨_, underlying44, rfl⟩
abbrev G0 : Nat := 46
theorem l7 : Sz prog G0 4 := cN
theorem C1 : IsR prog G0 := ⟨_, underlying46, rfl⟩
abbrev tN : Nat := 52
theorem lD : prog.underlying tN = some (.slice 26) := underlying52
theorem iq4 : Sz prog tN 1 := cN
theorem wB : NoR prog tN := ⟨_, underlying52, rfl⟩
theorem iq7 : ElT prog tN 26 1 24 := ElT.of (z := (.slice none 0 0)) underlying52 w7 rfl (by decide)
abbrev wD : Nat := 58
theorem X0 : prog.underlying wD = some (.slice 65) := underlying58
theorem iI : ElT prog wD 65 2 24 := ElT.of (z := (.agg #[(.string ⟨#[]⟩), (.int .i64 0)])) underlying58 w7 rfl (by decide)
abbrev tR : Nat := 65
theorem dN : Sz prog tR 2 := cN
theorem rX : IsR prog tR := ⟨_, underlying65, rfl⟩
abbrev jx5 : Nat := 72
theorem yM : prog.underlying jx5 = some (.int .u64) := underlying72
theorem uR : Sz prog jx5 1 := cN
theorem z9 : NoR prog jx5 := ⟨_, underlying72, rfl⟩
abbrev tJ : Nat := 74
abbrev mx7 : Nat := 75
abbrev qU : Nat := 80
theorem kO : prog.underlying qU = some (.slice 5) := underlying80
theorem dz0 : Sz prog qU 1 := cN
theorem jQ : NoR prog qU := ⟨_, underlying80, rfl⟩
abbrev qj5 : Nat := 82
abbrev bS : Nat := 87
theorem p9 : prog.underlying bS = some (.slice 89) := underlying87
theorem kR : ElT prog bS 89 6 96 := ElT.of (z := (.agg #[(.bool false), (.string ⟨#[]⟩), (.string ⟨#[]⟩), (.string ⟨#[]⟩), (.string ⟨#[]⟩), (.slice none 0 0)])) underlying87 w7 rfl (by decide)
abbrev C9 : Nat := 89
theorem i7 : Sz prog C9 6 := cN
theorem n9 : IsR prog C9 := ⟨_, underlying89, rfl⟩
abbrev iG : Nat := 95
theorem U5 : Sz prog iG 1 := cN
theorem S1 : NoR prog iG := ⟨_, underlying95, rfl⟩
abbrev W5 : Nat := 96
theorem S9 : prog.underlying W5 = some (.slice 95) := underlying96
theorem sJ : Sz prog W5 1 := cN
theorem r6 : NoR prog W5 := ⟨_, underlying96, rfl⟩
theorem sK : ElT prog W5 95 1 1 := ElT.of (z := (.int .u8 0)) underlying96 w7 rfl (by decide)
abbrev cD : Nat := 97
theorem G7 : prog.underlying cD = some (.slice 147) := underlying97
theorem cJ : Sz prog cD 1 := cN
theorem j7 : NoR prog cD := ⟨_, underlying97, rfl⟩
theorem cL : ElT prog cD 147 1 16 := ElT.of (z := .nilIface) underlying97 w7 rfl (by decide)
abbrev nV : Nat := 99
abbrev dx9 : Nat := 112
abbrev pz7 : Nat := 119
theorem lz0 : prog.underlying pz7 = some (.int .u64) := underlying119
abbrev N4 : Nat := 122
theorem kB : Sz prog N4 1 := cN
abbrev N5 : Nat := 124
theorem vI : Sz prog N5 2 := cN
abbrev tM : Nat := 126
abbrev jK : Nat := 127
theorem pP : Sz prog jK 1 := cN
theorem S3 : NoR prog jK := ⟨_, underlying127, rfl⟩
abbrev wJ : Nat := 129
abbrev cB : Nat := 133
theorem G6 : prog.underlying cB = some (.slice 169) := underlying133
theorem lE : Sz prog cB 1 := cN
theorem j8 : NoR prog cB := ⟨_, underlying133, rfl⟩
theorem lF : ElT prog cB 169 4 72 := ElT.of (z := (.agg #[(.string ⟨#[]⟩), (.string ⟨#[]⟩), (.string ⟨#[]⟩), (.slice none 0 0)])) underlying133 w7 rfl (by decide)
abbrev M0 : Nat := 135
theorem C4 : Sz prog M0 2 := cN
theorem J8 : IsR prog M0 := ⟨_, underlying135, rfl⟩
abbrev U8 : Nat := 140
abbrev aq7 : Nat := 142
abbrev X5 : Nat := 147
theorem U9 : Sz prog X5 1 := cN
theorem R4 : NoR prog X5 := ⟨_, underlying147, rfl⟩
abbrev dM : Nat := 148
theorem aq0 : prog.underlying dM = some (.int .u8) := underlying148
theorem G8 : Sz prog dM 1 := cN
theorem D3 : NoR prog dM := ⟨_, underlying148, rfl⟩
abbrev X4 : Nat := 151
theorem P6 : prog.underlying X4 = some (.array 6 148) := underlying151
theorem C5 : Sz prog X4 6 := cN
theorem E2 : IsR prog X4 := ⟨_, underlying151, rfl⟩
abbrev dS : Nat := 153
theorem I5 : prog.underlying dS = some (.slice 156) := underlying153
theorem kF : NoR prog dS := ⟨_, underlying153, rfl⟩
theorem dP : ElT prog dS 156 2 16 := ElT.of (z := (.agg #[(.int .i64 0), (.int .i64 0)])) underlying153 w7 rfl (by decide)
abbrev Q4 : Nat := 156
theorem B9 : Sz prog Q4 2 := cN
theorem G2 : IsR prog Q4 := ⟨_, underlying156, rfl⟩
abbrev U3 : Nat := 159
theorem kP : Sz prog U3 1 := cN
theorem O1 : NoR prog U3 := ⟨_, underlying159, rfl⟩
abbrev jx7 : Nat := 166
abbrev G4 : Nat := 169
theorem m9 : Sz prog G4 4 := cN
theorem A5 : IsR prog G4 := ⟨_, underlying169, rfl⟩
abbrev jx0 : Nat := 174
abbrev iq6 : Nat := 176
abbrev jx1 : Nat := 179
abbrev qj0 : Nat := 181
abbrev gz2 : Nat := 186
abbrev ij9 : Nat := 188
abbrev iA : Nat := 190
theorem dA : prog.underlying iA = some (.map 156 4) := underlying190
abbrev P7 : Nat := 192
theorem gV : Sz prog P7 1 := cN
theorem S2 : NoR prog P7 := ⟨_, underlying192, rfl⟩
abbrev iq5 : Nat := 195
abbrev qj3 : Nat := 202
abbrev I2 : Nat := 206
theorem aM : Sz prog I2 1 := cN
theorem j2 : NoR prog I2 := ⟨_, underlying206, rfl⟩
abbrev vZ : Nat := 208
theorem Q7 : Sz prog vZ 2 := cN
abbrev nW : Nat := 210
theorem C2 : prog.underlying nW = some (.map 9 208) := underlying210
abbrev mx8 : Nat := 212
abbrev aq3 : Nat := 219
abbrev dx8 : Nat := 222
abbrev cx2 : Nat := 224
abbrev qj2 : Nat := 225
abbrev jx6 : Nat := 229
abbrev qj6 : Nat := 232
abbrev pz6 : Nat := 242
abbrev jq9 : Nat := 244
abbrev gj3 : Nat := 245
abbrev qj1 : Nat := 274
theorem i9 (p : Addr) (w : World) : (Instr.fieldAt 25 (.pointer (some p)) 0).run prog w = .ok (.pointer (some (p.add 0))) w := w7
theorem i3 (p : Addr) (w : World) : (Instr.fieldAt 25 (.pointer (some p)) 1).run prog w = .ok (.pointer (some (p.add 1))) w := w7
theorem t9 (p : Addr) (w : World) : (Instr.fieldAt 44 (.pointer (some p)) 0).run prog w = .ok (.pointer (some (p.add 0))) w := w7
theorem y5 (p : Addr) (w : World) : (Instr.fieldAt 44 (.pointer (some p)) 1).run prog w = .ok (.pointer (some (p.add 1))) w := w7
theorem l9 (p : Addr) (w : World) : (Instr.fieldAt 46 (.pointer (some p)) 0).run prog w = .ok (.pointer (some (p.add 0))) w := w7
theorem p7 (p : Addr) (w : World) : (Instr.fieldAt 46 (.pointer (some p)) 1).run prog w = .ok (.pointer (some (p.add 1))) w := w7
theorem p6 (p : Addr) (w : World) : (Instr.fieldAt 46 (.pointer (some p)) 2).run prog w = .ok (.pointer (some (p.add 2))) w := w7
theorem l5 (p : Addr) (w : World) : (Instr.fieldAt 46 (.pointer (some p)) 3).run prog w = .ok (.pointer (some (p.add 3))) w := w7
theorem N1 (p : Addr) (w : World) : (Instr.fieldAt 74 (.pointer (some p)) 0).run prog w = .ok (.pointer (some (p.add 0))) w := w7
theorem E7 (p : Addr) (w : World) : (Instr.fieldAt 74 (.pointer (some p)) 1).run prog w = .ok (.pointer (some (p.add 1))) w := w7
theorem n0 (p : Addr) (w : World) : (Instr.fieldAt 74 (.pointer (some p)) 2).run prog w = .ok (.pointer (some (p.add 2))) w := w7
theorem C6 (p : Addr) (w : World) : (Instr.fieldAt 89 (.pointer (some p)) 0).run prog w = .ok (.pointer (some (p.add 0))) w := w7
theorem L5 (p : Addr) (w : World) : (Instr.fieldAt 89 (.pointer (some p)) 1).run prog w = .ok (.pointer (some (p.add 1))) w := w7
theorem kQ (p : Addr) (w : World) : (Instr.fieldAt 89 (.pointer (some p)) 2).run prog w = .ok (.pointer (some (p.add 2))) w := w7
theorem Y4 (p : Addr) (w : World) : (Instr.fieldAt 89 (.pointer (some p)) 3).run prog w = .ok (.pointer (some (p.add 3))) w := w7
theorem Y3 (p : Addr) (w : World) : (Instr.fieldAt 89 (.pointer (some p)) 4).run prog w = .ok (.pointer (some (p.add 4))) w := w7
theorem J4 (p : Addr) (w : World) : (Instr.fieldAt 89 (.pointer (some p)) 5).run prog w = .ok (.pointer (some (p.add 5))) w := w7
theorem u9 (p : Addr) (w : World) : (Instr.fieldAt 99 (.pointer (some p)) 0).run prog w = .ok (.pointer (some (p.add 0))) w := w7
theorem E5 (p : Addr) (w : World) : (Instr.fieldAt 99 (.pointer (some p)) 1).run prog w = .ok (.pointer (some (p.add 2))) w := w7
theorem r9 (p : Addr) (w : World) : (Instr.fieldAt 99 (.pointer (some p)) 2).run prog w = .ok (.pointer (some (p.add 3))) w := w7
theorem R9 (p : Addr) (w : World) : (Instr.fieldAt 122 (.pointer (some p)) 0).run prog w = .ok (.pointer (some (p.add 0))) w := w7
theorem iB (p : Addr) (w : World) : (Instr.fieldAt 124 (.pointer (some p)) 1).run prog w = .ok (.pointer (some (p.add 1))) w := w7
theorem kE (p : Addr) (w : World) : (Instr.fieldAt 126 (.pointer (some p)) 0).run prog w = .ok (.pointer (some (p.add 0))) w := w7
theorem P1 (p : Addr) (w : World) : (Instr.fieldAt 129 (.pointer (some p)) 0).run prog w = .ok (.pointer (some (p.add 0))) w := w7
theorem P0 (p : Addr) (w : World) : (Instr.fieldAt 129 (.pointer (some p)) 1).run prog w = .ok (.pointer (some (p.add 1))) w := w7
theorem A7 (p : Addr) (w : World) : (Instr.fieldAt 135 (.pointer (some p)) 0).run prog w = .ok (.pointer (some (p.add 0))) w := w7
theorem D9 (p : Addr) (w : World) : (Instr.fieldAt 135 (.pointer (some p)) 1).run prog w = .ok (.pointer (some (p.add 1))) w := w7
theorem kD (p : Addr) (w : World) : (Instr.fieldAt 140 (.pointer (some p)) 0).run prog w = .ok (.pointer (some (p.add 0))) w := w7
theorem kC (p : Addr) (w : World) : (Instr.fieldAt 140 (.pointer (some p)) 1).run prog w = .ok (.pointer (some (p.add 1))) w := w7
theorem H8 (p : Addr) (w : World) : (Instr.fieldAt 156 (.pointer (some p)) 0).run prog w = .ok (.pointer (some (p.add 0))) w := w7
theorem O9 (p : Addr) (w : World) : (Instr.fieldAt 156 (.pointer (some p)) 1).run prog w = .ok (.pointer (some (p.add 1))) w := w7
theorem N6 (p : Addr) (w : World) : (Instr.fieldAt 169 (.pointer (some p)) 0).run prog w = .ok (.pointer (some (p.add 0))) w := w7
theorem E6 (p : Addr) (w : World) : (Instr.fieldAt 169 (.pointer (some p)) 1).run prog w = .ok (.pointer (some (p.add 1))) w := w7
theorem J9 (p : Addr) (w : World) : (Instr.fieldAt 169 (.pointer (some p)) 2).run prog w = .ok (.pointer (some (p.add 2))) w := w7
theorem W0 (p : Addr) (w : World) : (Instr.fieldAt 169 (.pointer (some p)) 3).run prog w = .ok (.pointer (some (p.add 3))) w := w7
theorem B6 (p : Addr) (w : World) : (Instr.fieldAt 208 (.pointer (some p)) 0).run prog w = .ok (.pointer (some (p.add 0))) w := w7
theorem K0 (p : Addr) (w : World) : (Instr.fieldAt 208 (.pointer (some p)) 1).run prog w = .ok (.pointer (some (p.add 1))) w := w7
theorem D4 (w : World) : (Instr.alloc 25 true (.tuple #[])).run prog w = .ok (.pointer (some ⟨w.heap.size, 0, none⟩)) (w.alloc (.cells #[(.slice none 0 0), (.slice none 0 0)] 25 (0, 0))) := w7
theorem X1 (w : World) : (Instr.alloc 44 true (.tuple #[])).run prog w = .ok (.pointer (some ⟨w.heap.size, 0, none⟩)) (w.alloc (.cells #[(.string ⟨#[]⟩), (.int .i64 0)] 44 (0, 0))) := w7
theorem G9 (w : World) : (Instr.alloc 46 true (.tuple #[])).run prog w = .ok (.pointer (some ⟨w.heap.size, 0, none⟩)) (w.alloc (.cells #[(.string ⟨#[]⟩), (.int .i64 0), (.int .i64 0), (.slice none 0 0)] 46 (0, 0))) := w7
theorem iq8 (w : World) : (Instr.alloc 52 true (.tuple #[])).run prog w = .ok (.pointer (some ⟨w.heap.size, 0, none⟩)) (w.alloc (.cells #[(.slice none 0 0)] 52 (0, 0))) := w7
theorem S4 (w : World) : (Instr.alloc 89 true (.tuple #[])).run prog w = .ok (.pointer (some ⟨w.heap.size, 0, none⟩)) (w.alloc (.cells #[(.bool false), (.string ⟨#[]⟩), (.string ⟨#[]⟩), (.string ⟨#[]⟩), (.string ⟨#[]⟩), (.slice none 0 0)] 89 (0, 0))) := w7
theorem kH (w : World) : (Instr.alloc 122 true (.tuple #[])).run prog w = .ok (.pointer (some ⟨w.heap.size, 0, none⟩)) (w.alloc (.cells #[(.int .i64 0)] 122 (0, 0))) := w7
theorem vL (w : World) : (Instr.alloc 124 true (.tuple #[])).run prog w = .ok (.pointer (some ⟨w.heap.size, 0, none⟩)) (w.alloc (.cells #[(.int .i64 0), (.slice none 0 0)] 124 (0, 0))) := w7
theorem sM (w : World) : (Instr.alloc 129 true (.tuple #[])).run prog w = .ok (.pointer (some ⟨w.heap.size, 0, none⟩)) (w.alloc (.cells #[(.pointer none), (.slice none 0 0)] 129 (0, 0))) := w7
theorem Y5 (w : World) : (Instr.alloc 135 true (.tuple #[])).run prog w = .ok (.pointer (some ⟨w.heap.size, 0, none⟩)) (w.alloc (.cells #[(.slice none 0 0), (.slice none 0 0)] 135 (0, 0))) := w7
theorem mX (w : World) : (Instr.alloc 140 true (.tuple #[])).run prog w = .ok (.pointer (some ⟨w.heap.size, 0, none⟩)) (w.alloc (.cells #[(.int .i64 0), (.int .i64 0)] 140 (0, 0))) := w7
theorem yP (w : World) : (Instr.alloc 148 true (.tuple #[])).run prog w = .ok (.pointer (some ⟨w.heap.size, 0, none⟩)) (w.alloc (.cells #[(.int .u8 0)] 148 (0, 0))) := w7
theorem V1 (w : World) : (Instr.alloc 151 true (.tuple #[])).run prog w = .ok (.pointer (some ⟨w.heap.size, 0, none⟩)) (w.alloc (.cells #[(.int .u8 0), (.int .u8 0), (.int .u8 0), (.int .u8 0), (.int .u8 0), (.int .u8 0)] 151 (0, 0))) := w7
theorem bZ (w : World) : (Instr.alloc 156 true (.tuple #[])).run prog w = .ok (.pointer (some ⟨w.heap.size, 0, none⟩)) (w.alloc (.cells #[(.int .i64 0), (.int .i64 0)] 156 (0, 0))) := w7
theorem kV (w : World) : (Instr.alloc 159 true (.tuple #[])).run prog w = .ok (.pointer (some ⟨w.heap.size, 0, none⟩)) (w.alloc (.cells #[.nilFunc] 159 (0, 0))) := w7
theorem D8 (w : World) : (Instr.alloc 169 true (.tuple #[])).run prog w = .ok (.pointer (some ⟨w.heap.size, 0, none⟩)) (w.alloc (.cells #[(.string ⟨#[]⟩), (.string ⟨#[]⟩), (.string ⟨#[]⟩), (.slice none 0 0)] 169 (0, 0))) := w7
theorem gZ (w : World) : (Instr.alloc 192 true (.tuple #[])).run prog w = .ok (.pointer (some ⟨w.heap.size, 0, none⟩)) (w.alloc (.cells #[.nilFunc] 192 (0, 0))) := w7
theorem aN (w : World) : (Instr.alloc 206 true (.tuple #[])).run prog w = .ok (.pointer (some ⟨w.heap.size, 0, none⟩)) (w.alloc (.cells #[.nilFunc] 206 (0, 0))) := w7
theorem Q9 (w : World) : (Instr.alloc 208 true (.tuple #[])).run prog w = .ok (.pointer (some ⟨w.heap.size, 0, none⟩)) (w.alloc (.cells #[(.bool false), .nilFunc] 208 (0, 0))) := w7
theorem A6  (w : World) : (Instr.build 25 #[]).run prog w = .ok (.agg #[(.slice none 0 0), (.slice none 0 0)]) w := w7
theorem tQ (x1 : Option Addr) (x2 : Nat) (x3 : Nat) (x4 : Option Addr) (x5 : Nat) (x6 : Nat) (w : World) : (Instr.build 25 #[(0, (.slice x1 x2 x3)), (1, (.slice x4 x5 x6))]).run prog w = .ok (.agg #[(.slice x1 x2 x3), (.slice x4 x5 x6)]) w := w7
theorem yO (x1 : ByteArray) (w : World) : (Instr.build 44 #[(0, (.string x1))]).run prog w = .ok (.agg #[(.string x1), (.int .i64 0)]) w := w7
theorem M5 (x1 : ByteArray) (x2 : Int) (w : World) : (Instr.build 44 #[(0, (.string x1)), (1, (.int .i64 x2))]).run prog w = .ok (.agg #[(.string x1), (.int .i64 x2)]) w := w7
theorem Z2 (x1 : ByteArray) (x2 : Int) (x3 : Int) (w : World) : (Instr.build 46 #[(0, (.string x1)), (1, (.int .i64 x2)), (2, (.int .i64 x3))]).run prog w = .ok (.agg #[(.string x1), (.int .i64 x2), (.int .i64 x3), (.slice none 0 0)]) w := w7
theorem dR (x1 : ByteArray) (x2 : Int) (x3 : Int) (x4 : Option Addr) (x5 : Nat) (x6 : Nat) (w : World) : (Instr.build 46 #[(0, (.string x1)), (1, (.int .i64 x2)), (2, (.int .i64 x3)), (3, (.slice x4 x5 x6))]).run prog w = .ok (.agg #[(.string x1), (.int .i64 x2), (.int .i64 x3), (.slice x4 x5 x6)]) w := w7
theorem N7 (x1 : ByteArray) (x2 : Int) (w : World) : (Instr.build 65 #[(0, (.string x1)), (1, (.int .i64 x2))]).run prog w = .ok (.agg #[(.string x1), (.int .i64 x2)]) w := w7
theorem kU (x1 : Option Addr) (x2 : Nat) (x3 : Nat) (x4 : Int) (w : World) : (Instr.build 74 #[(0, (.slice x1 x2 x3)), (2, (.int .u64 x4))]).run prog w = .ok (.agg #[(.slice x1 x2 x3), (.int .i64 0), (.int .u64 x4)]) w := w7
theorem M1  (w : World) : (Instr.build 89 #[]).run prog w = .ok (.agg #[(.bool false), (.string ⟨#[]⟩), (.string ⟨#[]⟩), (.string ⟨#[]⟩), (.string ⟨#[]⟩), (.slice none 0 0)]) w := w7
theorem jJ (x1 : Bool) (x2 : ByteArray) (w : World) : (Instr.build 89 #[(0, (.bool x1)), (1, (.string x2))]).run prog w = .ok (.agg #[(.bool x1), (.string x2), (.string ⟨#[]⟩), (.string ⟨#[]⟩), (.string ⟨#[]⟩), (.slice none 0 0)]) w := w7
theorem gW (x1 : Bool) (x2 : ByteArray) (x3 : ByteArray) (w : World) : (Instr.build 89 #[(0, (.bool x1)), (1, (.string x2)), (2, (.string x3))]).run prog w = .ok (.agg #[(.bool x1), (.string x2), (.string x3), (.string ⟨#[]⟩), (.string ⟨#[]⟩), (.slice none 0 0)]) w := w7
theorem kT (x1 : ByteArray) (w : World) : (Instr.build 89 #[(1, (.string x1))]).run prog w = .ok (.agg #[(.bool false), (.string x1), (.string ⟨#[]⟩), (.string ⟨#[]⟩), (.string ⟨#[]⟩), (.slice none 0 0)]) w := w7
theorem wM (x1 : Option Addr) (x2 : Nat) (x3 : Nat) (x4 : Option Addr) (x5 : Nat) (x6 : Nat) (w : World) : (Instr.build 99 #[(0, (.agg #[(.slice x1 x2 x3), (.slice x4 x5 x6)]))]).run prog w = .ok (.agg #[(.slice x1 x2 x3), (.slice x4 x5 x6), (.slice none 0 0), (.slice none 0 0)]) w := w7
theorem sL (x1 : Int) (w : World) : (Instr.build 122 #[(0, (.int .i64 x1))]).run prog w = .ok (.agg #[(.int .i64 x1)]) w := w7
theorem pS (x1 : Int) (x2 : Option Addr) (x3 : Nat) (x4 : Nat) (w : World) : (Instr.build 124 #[(0, (.int .i64 x1)), (1, (.slice x2 x3 x4))]).run prog w = .ok (.agg #[(.int .i64 x1), (.slice x2 x3 x4)]) w := w7
theorem vK (x1 : Option Addr) (x2 : Nat) (x3 : Nat) (w : World) : (Instr.build 126 #[(0, (.slice x1 x2 x3))]).run prog w = .ok (.agg #[(.slice x1 x2 x3)]) w := w7
theorem R5  (w : World) : (Instr.build 135 #[]).run prog w = .ok (.agg #[(.slice none 0 0), (.slice none 0 0)]) w := w7
theorem E4 (x1 : Int) (x2 : Int) (w : World) : (Instr.build 140 #[(0, (.int .i64 x1)), (1, (.int .i64 x2))]).run prog w = .ok (.agg #[(.int .i64 x1), (.int .i64 x2)]) w := w7
theorem aW (x1 : Int) (x2 : Int) (w : World) : (Instr.build 156 #[(0, (.int .i64 x1)), (1, (.int .i64 x2))]).run prog w = .ok (.agg #[(.int .i64 x1), (.int .i64 x2)]) w := w7
theorem K4  (w : World) : (Instr.build 169 #[]).run prog w = .ok (.agg #[(.string ⟨#[]⟩), (.string ⟨#[]⟩), (.string ⟨#[]⟩), (.slice none 0 0)]) w := w7
theorem W4 (x1 : ByteArray) (w : World) : (Instr.build 169 #[(0, (.string x1))]).run prog w = .ok (.agg #[(.string x1), (.string ⟨#[]⟩), (.string ⟨#[]⟩), (.slice none 0 0)]) w := w7
theorem Z1 (x1 : Bool) (x2 : Fn) (x3 : Array Value) (x4 : Array Value) (w : World) : (Instr.build 208 #[(0, (.bool x1)), (1, (.func x2 x3 x4))]).run prog w = .ok (.agg #[(.bool x1), (.func x2 x3 x4)]) w := w7
theorem wN (x1 : Fn) (x2 : Array Value) (x3 : Array Value) (w : World) : (Instr.build 208 #[(1, (.func x1 x2 x3))]).run prog w = .ok (.agg #[(.bool false), (.func x1 x2 x3)]) w := w7
theorem aV (x1 : ByteArray) (x2 : Int) (w : World) : (Instr.buildSlice 22 1 #[(0, (.agg #[(.string x1), (.int .i64 x2)]))]).run prog w = .ok (.slice (some ⟨w.heap.size, 0, none⟩) 1 1) (w.alloc (.cells #[(.string x1), (.int .i64 x2)] 44 (0, 0))) := w7
theorem vJ (x1 : ByteArray) (x2 : Int) (x3 : ByteArray) (x4 : Int) (x5 : ByteArray) (x6 : Int) (x7 : ByteArray) (x8 : Int) (w : World) : (Instr.buildSlice 22 4 #[(0, (.agg #[(.string x1), (.int .i64 x2)])), (1, (.agg #[(.string x3), (.int .i64 x4)])), (2, (.agg #[(.string x5), (.int .i64 x6)])), (3, (.agg #[(.string x7), (.int .i64 x8)]))]).run prog w = .ok (.slice (some ⟨w.heap.size, 0, none⟩) 4 4) (w.alloc (.cells #[(.string x1), (.int .i64 x2), (.string x3), (.int .i64 x4), (.string x5), (.int .i64 x6), (.string x7), (.int .i64 x8)] 44 (0, 0))) := w7
theorem wL  (w : World) : (Instr.buildSlice 23 0 #[]).run prog w = .ok (.slice (some ⟨w.heap.size, 0, none⟩) 0 0) (w.alloc (.cells #[] 46 (0, 0))) := w7
theorem W3 (x1 : ByteArray) (x2 : Int) (x3 : Int) (x4 : Option Addr) (x5 : Nat) (x6 : Nat) (w : World) : (Instr.buildSlice 23 1 #[(0, (.agg #[(.string x1), (.int .i64 x2), (.int .i64 x3), (.slice x4 x5 x6)]))]).run prog w = .ok (.slice (some ⟨w.heap.size, 0, none⟩) 1 1) (w.alloc (.cells #[(.string x1), (.int .i64 x2), (.int .i64 x3), (.slice x4 x5 x6)] 46 (0, 0))) := w7
theorem lG (x1 : ByteArray) (x2 : Int) (x3 : Int) (x4 : Option Addr) (x5 : Nat) (x6 : Nat) (x7 : ByteArray) (x8 : Int) (x9 : Int) (x10 : Option Addr) (x11 : Nat) (x12 : Nat) (x13 : ByteArray) (x14 : Int) (x15 : Int) (x16 : Option Addr) (x17 : Nat) (x18 : Nat) (x19 : ByteArray) (x20 : Int) (x21 : Int) (x22 : Option Addr) (x23 : Nat) (x24 : Nat) (x25 : ByteArray) (x26 : Int) (x27 : Int) (x28 : Option Addr) (x29 : Nat) (x30 : Nat) (x31 : ByteArray) (x32 : Int) (x33 : Int) (x34 : Option Addr) (x35 : Nat) (x36 : Nat) (w : World) : (Instr.buildSlice 23 6 #[(0, (.agg #[(.string x1), (.int .i64 x2), (.int .i64 x3), (.slice x4 x5 x6)])), (1, (.agg #[(.string x7), (.int .i64 x8), (.int .i64 x9), (.slice x10 x11 x12)])), (2, (.agg #[(.string x13), (.int .i64 x14), (.int .i64 x15), (.slice x16 x17 x18)])), (3, (.agg #[(.string x19), (.int .i64 x20), (.int .i64 x21), (.slice x22 x23 x24)])), (4, (.agg #[(.string x25), (.int .i64 x26), (.int .i64 x27), (.slice x28 x29 x30)])), (5, (.agg #[(.string x31), (.int .i64 x32), (.int .i64 x33), (.slice x34 x35 x36)]))]).run prog w = .ok (.slice (some ⟨w.heap.size, 0, none⟩) 6 6) (w.alloc (.cells #[(.string x1), (.int .i64 x2), (.int .i64 x3), (.slice x4 x5 x6), (.string x7), (.int .i64 x8), (.int .i64 x9), (.slice x10 x11 x12), (.string x13), (.int .i64 x14), (.int .i64 x15), (.slice x16 x17 x18), (.string x19), (.int .i64 x20), (.int .i64 x21), (.slice x22 x23 x24), (.string x25), (.int .i64 x26), (.int .i64 x27), (.slice x28 x29 x30), (.string x31), (.int .i64 x32), (.int .i64 x33), (.slice x34 x35 x36)] 46 (0, 0))) := w7
theorem J5 (x1 : Int) (w : World) : (Instr.buildSlice 26 1 #[(0, (.int .i64 x1))]).run prog w = .ok (.slice (some ⟨w.heap.size, 0, none⟩) 1 1) (w.alloc (.cells #[(.int .i64 x1)] 3 (0, 0))) := w7
theorem kS (x1 : Int) (x2 : Int) (w : World) : (Instr.buildSlice 26 2 #[(0, (.int .i64 x1)), (1, (.int .i64 x2))]).run prog w = .ok (.slice (some ⟨w.heap.size, 0, none⟩) 2 2) (w.alloc (.cells #[(.int .i64 x1), (.int .i64 x2)] 3 (0, 0))) := w7
theorem tP (x1 : Option Addr) (x2 : Nat) (x3 : Nat) (x4 : Option Addr) (x5 : Nat) (x6 : Nat) (x7 : Option Addr) (x8 : Nat) (x9 : Nat) (x10 : Option Addr) (x11 : Nat) (x12 : Nat) (w : World) : (Instr.buildSlice 32 2 #[(0, (.agg #[(.slice x1 x2 x3), (.slice x4 x5 x6)])), (1, (.agg #[(.slice x7 x8 x9), (.slice x10 x11 x12)]))]).run prog w = .ok (.slice (some ⟨w.heap.size, 0, none⟩) 2 2) (w.alloc (.cells #[(.slice x1 x2 x3), (.slice x4 x5 x6), (.slice x7 x8 x9), (.slice x10 x11 x12)] 25 (0, 0))) := w7
theorem W1 (x1 : ByteArray) (w : World) : (Instr.buildSlice 33 1 #[(0, (.string x1))]).run prog w = .ok (.slice (some ⟨w.heap.size, 0, none⟩) 1 1) (w.alloc (.cells #[(.string x1)] 9 (0, 0))) := w7
theorem gz3 (x1 : ByteArray) (x2 : ByteArray) (x3 : ByteArray) (x4 : ByteArray) (x5 : ByteArray) (x6 : ByteArray) (x7 : ByteArray) (x8 : ByteArray) (x9 : ByteArray) (w : World) : (Instr.buildSlice 33 9 #[(0, (.string x1)), (1, (.string x2)), (2, (.string x3)), (3, (.string x4)), (4, (.string x5)), (5, (.string x6)), (6, (.string x7)), (7, (.string x8)), (8, (.string x9))]).run prog w = .ok (.slice (some ⟨w.heap.size, 0, none⟩) 9 9) (w.alloc (.cells #[(.string x1), (.string x2), (.string x3), (.string x4), (.string x5), (.string x6), (.string x7), (.string x8), (.string x9)] 9 (0, 0))) := w7
theorem dz1 (x1 : ByteArray) (x2 : ByteArray) (x3 : ByteArray) (x4 : ByteArray) (x5 : ByteArray) (x6 : ByteArray) (x7 : ByteArray) (x8 : ByteArray) (x9 : ByteArray) (x10 : ByteArray) (x11 : ByteArray) (x12 : ByteArray) (x13 : ByteArray) (x14 : ByteArray) (x15 : ByteArray) (x16 : ByteArray) (w : World) : (Instr.buildSlice 33 16 #[(0, (.string x1)), (1, (.string x2)), (2, (.string x3)), (3, (.string x4)), (4, (.string x5)), (5, (.string x6)), (6, (.string x7)), (7, (.string x8)), (8, (.string x9)), (9, (.string x10)), (10, (.string x11)), (11, (.string x12)), (12, (.string x13)), (13, (.string x14)), (14, (.string x15)), (15, (.string x16))]).run prog w = .ok (.slice (some ⟨w.heap.size, 0, none⟩) 16 16) (w.alloc (.cells #[(.string x1), (.string x2), (.string x3), (.string x4), (.string x5), (.string x6), (.string x7), (.string x8), (.string x9), (.string x10), (.string x11), (.string x12), (.string x13), (.string x14), (.string x15), (.string x16)] 9 (0, 0))) := w7
theorem dz3 (x1 : Option Addr) (x2 : Nat) (x3 : Nat) (w : World) : (Instr.buildSlice 52 1 #[(0, (.slice x1 x2 x3))]).run prog w = .ok (.slice (some ⟨w.heap.size, 0, none⟩) 1 1) (w.alloc (.cells #[(.slice x1 x2 x3)] 26 (0, 0))) := w7
theorem dz2 (x1 : Option Addr) (x2 : Nat) (x3 : Nat) (x4 : Option Addr) (x5 : Nat) (x6 : Nat) (w : World) : (Instr.buildSlice 52 2 #[(0, (.slice x1 x2 x3)), (1, (.slice x4 x5 x6))]).run prog w = .ok (.slice (some ⟨w.heap.size, 0, none⟩) 2 2) (w.alloc (.cells #[(.slice x1 x2 x3), (.slice x4 x5 x6)] 26 (0, 0))) := w7
theorem cM (x1 : ByteArray) (x2 : Int) (w : World) : (Instr.buildSlice 58 1 #[(0, (.agg #[(.string x1), (.int .i64 x2)]))]).run prog w = .ok (.slice (some ⟨w.heap.size, 0, none⟩) 1 1) (w.alloc (.cells #[(.string x1), (.int .i64 x2)] 65 (0, 0))) := w7
theorem wK (x1 : ByteArray) (x2 : Int) (x3 : ByteArray) (x4 : Int) (x5 : ByteArray) (x6 : Int) (w : World) : (Instr.buildSlice 58 3 #[(0, (.agg #[(.string x1), (.int .i64 x2)])), (1, (.agg #[(.string x3), (.int .i64 x4)])), (2, (.agg #[(.string x5), (.int .i64 x6)]))]).run prog w = .ok (.slice (some ⟨w.heap.size, 0, none⟩) 3 3) (w.alloc (.cells #[(.string x1), (.int .i64 x2), (.string x3), (.int .i64 x4), (.string x5), (.int .i64 x6)] 65 (0, 0))) := w7
theorem jR (x1 : Int) (w : World) : (Instr.buildSlice 80 1 #[(0, (.int .u8 x1))]).run prog w = .ok (.slice (some ⟨w.heap.size, 0, none⟩) 1 1) (w.alloc (.cells #[(.int .u8 x1)] 5 (0, 0))) := w7
theorem jH (x1 : Bool) (x2 : ByteArray) (x3 : ByteArray) (x4 : ByteArray) (x5 : ByteArray) (x6 : Option Addr) (x7 : Nat) (x8 : Nat) (w : World) : (Instr.buildSlice 87 1 #[(0, (.agg #[(.bool x1), (.string x2), (.string x3), (.string x4), (.string x5), (.slice x6 x7 x8)]))]).run prog w = .ok (.slice (some ⟨w.heap.size, 0, none⟩) 1 1) (w.alloc (.cells #[(.bool x1), (.string x2), (.string x3), (.string x4), (.string x5), (.slice x6 x7 x8)] 89 (0, 0))) := w7
theorem pR (x1 : Int) (w : World) : (Instr.buildSlice 96 1 #[(0, (.int .u8 x1))]).run prog w = .ok (.slice (some ⟨w.heap.size, 0, none⟩) 1 1) (w.alloc (.cells #[(.int .u8 x1)] 95 (0, 0))) := w7
theorem Z0 (x1 : Nat) (x2 : Value) (w : World) : (Instr.buildSlice 97 1 #[(0, (.iface x1 x2))]).run prog w = .ok (.slice (some ⟨w.heap.size, 0, none⟩) 1 1) (w.alloc (.cells #[(.iface x1 x2)] 147 (0, 0))) := w7
theorem jI (x1 : ByteArray) (x2 : ByteArray) (x3 : ByteArray) (x4 : Option Addr) (x5 : Nat) (x6 : Nat) (w : World) : (Instr.buildSlice 133 1 #[(0, (.agg #[(.string x1), (.string x2), (.string x3), (.slice x4 x5 x6)]))]).run prog w = .ok (.slice (some ⟨w.heap.size, 0, none⟩) 1 1) (w.alloc (.cells #[(.string x1), (.string x2), (.string x3), (.slice x4 x5 x6)] 169 (0, 0))) := w7
theorem kG (x1 : Int) (x2 : Int) (w : World) : (Instr.buildSlice 153 1 #[(0, (.agg #[(.int .i64 x1), (.int .i64 x2)]))]).run prog w = .ok (.slice (some ⟨w.heap.size, 0, none⟩) 1 1) (w.alloc (.cells #[(.int .i64 x1), (.int .i64 x2)] 156 (0, 0))) := w7
theorem aq4 (a0 b0 : Str) (a1 b1 : Int) (w : World) : (Op.equalIn 10000 44 (.agg #[.string ⟨(a0 : Str).toArray⟩, .int .i64 a1]) (.agg #[.string ⟨(b0 : Str).toArray⟩, .int .i64 b1])).run prog w = .ok (decide ((a0, a1) = (b0, b1))) w := by
  rw [run_equalIn_agg w 9999 44 _ _ (by simp only [Program.fieldsOf, underlying44]) w7]; simp only [Program.fieldsOf, underlying44]
  by_cases h0 : a0 = b0 <;> by_cases h1 : a1 = b1 <;>
    simp [Op.eqFields, part, isAgg, run_equalIn_int _ 9998 3 .i64 .i64 _ _ underlying3, run_equalIn_string _ 9998 9 _ _ underlying9, run_underlying underlying3, run_underlying underlying9, h0, h1]
theorem aq2 (a0 b0 : Str) (a1 b1 : Int) (w : World) : (binOp .neq 44 (.agg #[.string ⟨(a0 : Str).toArray⟩, .int .i64 a1]) (.agg #[.string ⟨(b0 : Str).toArray⟩, .int .i64 b1])).run prog w = .ok (.bool (decide (¬ (a0, a1) = (b0, b1)))) w := by rw [run_neq_struct, aq4, decide_not]; rfl
theorem aq6 (op : BinOp) (x y : Operand) (xs ys : Array Value) (w : World) : (eqGuard op 44 x y (.agg xs) (.agg ys)).run prog w = .ok () w := run_eqGuard_agg w op 44 x y xs ys w7
theorem cj1 (a0 b0 : Str) (a1 b1 : Int) (w : World) : (Op.equalIn 10000 65 (.agg #[.string ⟨(a0 : Str).toArray⟩, .int .i64 a1]) (.agg #[.string ⟨(b0 : Str).toArray⟩, .int .i64 b1])).run prog w = .ok (decide ((a0, a1) = (b0, b1))) w := by
  rw [run_equalIn_agg w 9999 65 _ _ (by simp only [Program.fieldsOf, underlying65]) w7]; simp only [Program.fieldsOf, underlying65]
  by_cases h0 : a0 = b0 <;> by_cases h1 : a1 = b1 <;>
    simp [Op.eqFields, part, isAgg, run_equalIn_int _ 9998 3 .i64 .i64 _ _ underlying3, run_equalIn_string _ 9998 9 _ _ underlying9, run_underlying underlying3, run_underlying underlying9, h0, h1]
theorem cj0 (a0 b0 : Str) (a1 b1 : Int) (w : World) : (binOp .neq 65 (.agg #[.string ⟨(a0 : Str).toArray⟩, .int .i64 a1]) (.agg #[.string ⟨(b0 : Str).toArray⟩, .int .i64 b1])).run prog w = .ok (.bool (decide (¬ (a0, a1) = (b0, b1)))) w := by rw [run_neq_struct, cj1, decide_not]; rfl
theorem cj2 (op : BinOp) (x y : Operand) (xs ys : Array Value) (w : World) : (eqGuard op 65 x y (.agg xs) (.agg ys)).run prog w = .ok () w := run_eqGuard_agg w op 65 x y xs ys w7
theorem pQ (a0 b0 : Int) (a1 b1 : Int) (w : World) : (Op.equalIn 10000 156 (.agg #[.int .i64 a0, .int .i64 a1]) (.agg #[.int .i64 b0, .int .i64 b1])).run prog w = .ok (decide ((a0, a1) = (b0, b1))) w := by
  rw [run_equalIn_agg w 9999 156 _ _ (by simp only [Program.fieldsOf, underlying156]) w7]; simp only [Program.fieldsOf, underlying156]
  by_cases h0 : a0 = b0 <;> by_cases h1 : a1 = b1 <;>
    simp [Op.eqFields, part, isAgg, run_equalIn_int _ 9998 3 .i64 .i64 _ _ underlying3, run_underlying underlying3, h0, h1]
theorem aq1 (a0 b0 : Int) (a1 b1 : Int) (w : World) : (binOp .neq 156 (.agg #[.int .i64 a0, .int .i64 a1]) (.agg #[.int .i64 b0, .int .i64 b1])).run prog w = .ok (.bool (decide (¬ (a0, a1) = (b0, b1)))) w := by rw [run_neq_struct, pQ, decide_not]; rfl
theorem aq5 (op : BinOp) (x y : Operand) (xs ys : Array Value) (w : World) : (eqGuard op 156 x y (.agg xs) (.agg ys)).run prog w = .ok () w := run_eqGuard_agg w op 156 x y xs ys w7
end T
end Go.Proofs.YtdgmfagfpbdbhaaGreatDoor
end
section
namespace Go.W
universe u
open Go Go.RowKit
class El (α : Type) extends Inhabited α where
  cells : α → List Value
  sz : Nat
  len : ∀ a, (cells a).length = sz
  one : ∀ a, ∀ u ∈ cells a, u.oneCell' = true
def rows {α : Type} [El α] (l : List α) : List Value := l.flatMap El.cells
instance : El Str where
  default := []
  cells s := [str s]
  sz := 1
  len _ := rfl
  one a u h := by simp at h; subst h; rfl
instance : El Int where
  default := 0
  cells n := [int n]
  sz := 1
  len _ := rfl
  one a u h := by simp at h; subst h; rfl
instance : El UInt8 where
  default := 0
  cells n := [.int .u8 n.toNat]
  sz := 1
  len _ := rfl
  one a u h := by simp at h; subst h; rfl
abbrev Mk := Int × Int × Str
instance : El Mk where
  default := (0, 0, [])
  cells m := [int m.1, int m.2.1, str m.2.2]
  sz := 3
  len _ := rfl
  one a u h := by simp at h; rcases h with h | h | h <;> subst h <;> rfl
structure Sl (α : Type) where
  a : Option Addr
  c : Nat
  l : List α
instance {α : Type} : El (Sl α) where
  default := ⟨none, 0, []⟩
  cells p := [.slice p.a p.l.length p.c]
  sz := 1
  len _ := rfl
  one a u h := by simp at h; subst h; rfl
section
variable {α : Type} [El α]
theorem tT : rows ([] : List α) = [] := rfl
theorem X6 (a : α) (l : List α) : rows (a :: l) = El.cells a ++ rows l := rfl
theorem A1 (l l' : List α) : rows (l ++ l') = rows l ++ rows l' := by simp [rows]
theorem R6 (l : List α) : (rows l).length = l.length * El.sz α := by
  induction l with
  | nil => simp [tT]
  | cons a l ih => rw [X6, List.length_append, El.len, ih, List.length_cons, Nat.add_mul, Nat.one_mul, Nat.add_comm]
theorem E8 (l : List α) : ∀ u ∈ rows l, u.oneCell' = true := by
  intro u hu; obtain ⟨a, _, h⟩ := List.mem_flatMap.1 hu; exact El.one a u h
theorem ax0 (l : List α) (k : Nat) : (rows l).drop (k * El.sz α) = rows (l.drop k) := by
  induction l generalizing k with
  | nil => simp [tT]
  | cons a l ih =>
    cases k with
    | zero => simp
    | succ k =>
      rw [X6, List.drop_succ_cons, ← ih, List.drop_append, El.len, List.drop_eq_nil_of_le (by rw [El.len, Nat.succ_mul]; omega), List.nil_append]
      congr 1
      rw [Nat.succ_mul]
      omega
theorem rows_get' (l : List α) (i j : Nat) (hi : i < l.length) (hj : j < El.sz α) : (rows l)[i * El.sz α + j]? = (El.cells (l.getD i default))[j]? := by
  have h := congrArg (·[j]?) (ax0 l i); simp only [List.getElem?_drop] at h; rw [h, List.drop_eq_getElem_cons hi, X6, List.getElem?_append_left (by rw [El.len]; exact hj)]
  simp [List.getD_eq_getElem?_getD, hi]
theorem rows_get {l : List α} {i j : Nat} {v : Value} (hi : i < l.length) (hv : (El.cells (l.getD i default))[j]? = some v) : (rows l)[i * El.sz α + j]? = some v := by
  have hj : j < El.sz α := by
    have := (List.getElem?_eq_some_iff.1 hv).1
    rwa [El.len] at this
  rw [rows_get' l i j hi hj, hv]
theorem b4 {l : List α} {i : Nat} {v : Value} (hi : i < l.length) (hv : (El.cells (l.getD i default))[0]? = some v) : (rows l)[i * El.sz α]? = some v := rows_get (j := 0) hi hv
theorem B3 {l : List α} {i : Nat} (hi : i < l.length) : ∀ j u, (El.cells (l.getD i default))[j]? = some u → (rows l)[i * El.sz α + j]? = some u := fun j u h => rows_get hi h
theorem rows_lt {l : List α} {i : Nat} (hi : i < l.length) (h0 : 0 < El.sz α) : i * El.sz α < (rows l).length := by
  rw [R6]; exact Nat.mul_lt_mul_of_pos_right hi h0
theorem aq9 (l : List α) (k : Nat) : (rows l).take (k * El.sz α) = rows (l.take k) := by
  induction l generalizing k with
  | nil => simp [tT]
  | cons a l ih =>
    cases k with
    | zero => simp [tT]
    | succ k =>
      rw [X6, List.take_succ_cons, X6, ← ih, Nat.succ_mul, List.take_append, El.len, List.take_of_length_le (by rw [El.len]; omega)]
      congr 2
      omega
end
theorem ax3 {c : Cx} {Q : Exit → Act → World → Prop} {fr : Fr} {hp : Hp} {L : List Fact} {ops : Array Oper} {rest : List Oper} {d : Tmp} {ty : TypeId} {pos : String} {af : Array Edge}
    {s t : TypeId} {x : Operand} {ks k k' : IntKind} {a : Int} (z : Int) (hd : Nat.blt d c.n = true) (hs : c.P.underlying s = some (.int ks)) (ht : c.P.underlying t = some (.int k')) (hx : ev fr x = some (.int k a)) (hz : k'.wrap a = z)
    (kk : HL c ops Q rest ((d, .int k' z) :: fr) hp L) : HL c ops Q (⟨some d, .convert s t x, ty, pos, af, none⟩ :: rest) fr hp L :=
  E0 _ rfl rfl hd (fun a' w ha _ => by
    simp only [execOp, ha.ev hx, Sem.run_bind, convert, run_underlying hs, run_underlying ht, Result.andThen_ok]; rw [← hz]
    cases ks <;> rfl) kk
theorem nq5 {c : Cx} {Q : Exit → Act → World → Prop} {fr : Fr} {hp : Hp} {L : List Fact} {ops : Array Oper} {rest : List Oper} {d : Tmp} {ty : TypeId} {pos : String} {af : Array Edge}
    {t yt : TypeId} {x y : Operand} {kd : IntKind} {a b : Int} (hd : Nat.blt d c.n = true) (hx : ev fr x = some (.int kd a)) (hy : ev fr y = some (.int kd b)) (hb : b ≠ 0)
    (kk : HL c ops Q rest ((d, .int kd (a.tmod b)) :: fr) hp L) : HL c ops Q (⟨some d, .binOp .rem t x y yt, ty, pos, af, none⟩ :: rest) fr hp L :=
  R7 _ hd hx hy (fun _ => rfl) (fun w => by
    have : (binOp .rem t (.int kd a) (.int kd b)) = Op.intDiv .rem kd a b := by cases kd <;> rfl
    rw [this]
    simp [Op.intDiv, hb]) kk
theorem wrapU (n : Int) : 0 ≤ IntKind.u64.wrap n ∧ IntKind.u64.wrap n < 18446744073709551616 := by
  simp only [IntKind.wrap, IntKind.bits, IntKind.signed]
  simp
  omega
theorem m7 {α : Type} [El α] {c : Cx} {Q : Exit → Act → World → Prop} {fr : Fr} {hp : Hp} {L : List Fact} {ops : Array Oper} {rest : List Oper} {d : Tmp} {ty : TypeId} {pos : String} {af : Array Edge}
    {t e : TypeId} {x i : Operand} {A : Option Addr} {n cp : Nat} {kd : IntKind} {z : Int} (l : List α) (j : Nat) (hd : Nat.blt d c.n = true) (ht : c.P.underlying t = some (.slice e)) (hz : Sz c.P e (El.sz α))
    (hx : ev fr x = some (.slice A n cp)) (hi : ev fr i = some (.int kd z)) (hjz : z = (j : Int)) (hr : Row A (rows l) ∈ L) (hn : n = l.length) (hj : j < l.length) (h0 : 0 < El.sz α)
    (k : HL c ops Q rest ((d, .pointer (some ((adr A).add (j * El.sz α)))) :: fr) hp L) : HL c ops Q (⟨some d, .indexAddr t x i, ty, pos, af, none⟩ :: rest) fr hp L :=
  ix9 j hd ht hz hx hi hjz (by omega) hr (rows_lt hj h0) k
def Rows2 {α : Type} [El α] (A : Option Addr) (ps : List (Sl α)) : Fact where
  P w := (Row A (rows ps)).P w ∧ ∀ p ∈ ps, (Row p.a (rows p.l)).P w
  fp k := (Row A (rows ps)).fp k ∨ ∃ p ∈ ps, (Row p.a (rows p.l)).fp k
  st w w' h hP := ⟨(Row A (rows ps)).st w w' (fun k hk => h k (.inl hk)) hP.1, fun p hp => (Row p.a (rows p.l)).st w w' (fun k hk => h k (.inr ⟨p, hp, hk⟩)) (hP.2 p hp)⟩
  lt w hP k hk := by
    rcases hk with hk | ⟨p, hp, hk⟩
    · exact (Row A (rows ps)).lt w hP.1 k hk
    exact (Row p.a (rows p.l)).lt w (hP.2 p hp) k hk
section
variable {c : Cx} {Q : Exit → Act → World → Prop} {fr : Fr} {hp : Hp} {L : List Fact} {ops : Array Oper} {rest : List Oper}
theorem mz2 {α : Type} [El α] {b : Bx} {w : World} {A : Option Addr} {ps : List (Sl α)} (h : Rows2 A ps ∈ L) (hw : WI b w hp L) : WI b w hp (Row A (rows ps) :: L) :=
  Y2 hw (hw.fs _ h).1 (fun k hk => ⟨_, h, .inl hk⟩)
theorem mz4 {α : Type} [El α] {b : Bx} {w : World} {A : Option Addr} {ps : List (Sl α)} {p : Sl α} (h : Rows2 A ps ∈ L) (hp' : p ∈ ps) (hw : WI b w hp L) : WI b w hp (Row p.a (rows p.l) :: L) :=
  Y2 hw ((hw.fs _ h).2 p hp') (fun k hk => ⟨_, h, .inr ⟨p, hp', hk⟩⟩)
theorem jj3 {α : Type} [El α] {A : Option Addr} {ps : List (Sl α)} {x : Code} (h : Rows2 A ps ∈ L) (k : HC c x Q fr hp (Row A (rows ps) :: L)) : HC c x Q fr hp L := fun a w ha hw => k a w ha (mz2 h hw)
theorem jj0 {α : Type} [El α] {A : Option Addr} {ps : List (Sl α)} {p : Sl α} (h : Rows2 A ps ∈ L) (hp' : p ∈ ps) (k : HL c ops Q rest fr hp (Row p.a (rows p.l) :: L)) : HL c ops Q rest fr hp L := fun a w ha hw => k a w ha (mz4 h hp' hw)
variable {d : Tmp} {ty : TypeId} {pos : String} {af : Array Edge}
theorem p_t {x y z : Operand} {v : Value} {b : Bool} (hd : Nat.blt d c.n = true) (hx : ev fr x = some (.bool b)) (hb : b = true) (hy : ev fr y = some v) (k : HL c ops Q rest ((d, v) :: fr) hp L) : HL c ops Q (⟨some d, .pick x y z, ty, pos, af, none⟩ :: rest) fr hp L := by
  subst hb; exact nq6 hd hx hy k
theorem p_f {x y z : Operand} {v : Value} {b : Bool} (hd : Nat.blt d c.n = true) (hx : ev fr x = some (.bool b)) (hb : b = false) (hz : ev fr z = some v) (k : HL c ops Q rest ((d, v) :: fr) hp L) : HL c ops Q (⟨some d, .pick x y z, ty, pos, af, none⟩ :: rest) fr hp L := by
  subst hb; exact nq7 hd hx hz k
theorem c_t {x : Operand} {b : Bool} {thn els : Code} (hx : ev fr x = some (.bool b)) (hb : b = true) (ht : HC c thn Q fr hp L) : HC c (.cond x thn els) Q fr hp L := by subst hb; exact mq7 hx ht
theorem c_f {x : Operand} {b : Bool} {thn els : Code} (hx : ev fr x = some (.bool b)) (hb : b = false) (hf : HC c els Q fr hp L) : HC c (.cond x thn els) Q fr hp L := by subst hb; exact mq8 hx hf
theorem bt1 {b : Bool} (h : (b == true) = true) : b = true := by cases b <;> simp_all
theorem bt2 {b : Bool} (h : (b == false) = false) : b = true := by cases b <;> simp_all
theorem bf1 {b : Bool} (h : (b == false) = true) : b = false := by cases b <;> simp_all
theorem bf2 {b : Bool} (h : (b == true) = false) : b = false := by cases b <;> simp_all
theorem gy {b : Bool} (h : (b == true) = false) : (b == false) = true := by cases b <;> simp_all
theorem K6 {o : Oper} {j : Nat} {want : Bool} {t : Tmp} {v : Value} (ho : o.dst = some d) (hg : o.guard = some (j, want)) (hd : Nat.blt d c.n = true) (hj : (ops[j]?).bind (·.dst) = some t) (hv : lk fr t = some v) (hu : v = undef)
    (k : HL c ops Q rest ((d, undef) :: fr) hp L) : HL c ops Q (o :: rest) fr hp L := by
  subst hu; intro a w ha hw; refine iq0 ?_ ?_
  · rw [Region.wanted, hg]
    show (yielded ops a.tmps j == some want) = false; have h1 := ha.at_ t _ hv
    have : yielded ops a.tmps j = none := by
      unfold yielded; rw [hj]; simp only [Option.bind_some]
      cases h2 : a.tmps[t]? with
      | none => rfl
      | some u => simp [Array.getD_eq_getD_getElem?, h2, undef] at h1; rw [h1]
    rw [this]; rfl
  rw [ho]; exact k _ _ (ha.put (by simpa using hd) _) hw
theorem v6 {dst : Option Tmp} {op : Op} {j : Nat} {want b : Bool} {t : Tmp} (hj : (ops[j]?).bind (·.dst) = some t) (hv : lk fr t = some (.bool b))
    (hy : (b == want) = true → HL c ops Q (⟨dst, op, ty, pos, af, some (j, want)⟩ :: rest) fr hp L) (hn : (b == want) = false → HL c ops Q (⟨dst, op, ty, pos, af, some (j, want)⟩ :: rest) fr hp L) :
    HL c ops Q (⟨dst, op, ty, pos, af, some (j, want)⟩ :: rest) fr hp L := by
  cases hb : (b == want)
  · exact hn hb
  exact hy hb
theorem L3 {O0 : Hp} {K : Env → Prop} {r : List Oper} {E : Env} {want b : Bool} {t : Tmp} (hv : lkE E t = some (.ex (.bool b))) (hy : (b == want) = true → HB c ops fr O0 hp L K r E) (hn : (b == want) = false → HB c ops fr O0 hp L K r E) : HB c ops fr O0 hp L K r E := by
  cases hb : (b == want)
  · exact hn hb
  exact hy hb
theorem k9 {x : Operand} {p : Prop} [Decidable p] {thn els : Code} (hx : ev fr x = some (.bool (decide p))) (ht : p → HC c thn Q fr hp L) (hf : ¬ p → HC c els Q fr hp L) : HC c (.cond x thn els) Q fr hp L :=
  j0 hx (fun h => ht (of_decide_eq_true h)) (fun h => hf (of_decide_eq_false h))
end
theorem m0 {α : Type u} {a  : α} {l : List α} : a ∈ a :: l := .head _
theorem m1 {α : Type u} {a x0 : α} {l : List α} : a ∈ x0 :: a :: l := .tail _ (.head _)
theorem m2 {α : Type u} {a x0 x1 : α} {l : List α} : a ∈ x0 :: x1 :: a :: l := .tail _ (.tail _ (.head _))
theorem m3 {α : Type u} {a x0 x1 x2 : α} {l : List α} : a ∈ x0 :: x1 :: x2 :: a :: l := .tail _ (.tail _ (.tail _ (.head _)))
theorem m4 {α : Type u} {a x0 x1 x2 x3 : α} {l : List α} : a ∈ x0 :: x1 :: x2 :: x3 :: a :: l := .tail _ (.tail _ (.tail _ (.tail _ (.head _))))
theorem m5 {α : Type u} {a x0 x1 x2 x3 x4 : α} {l : List α} : a ∈ x0 :: x1 :: x2 :: x3 :: x4 :: a :: l := .tail _ (.tail _ (.tail _ (.tail _ (.tail _ (.head _)))))
theorem m6 {α : Type u} {a x0 x1 x2 x3 x4 x5 : α} {l : List α} : a ∈ x0 :: x1 :: x2 :: x3 :: x4 :: x5 :: a :: l := .tail _ (.tail _ (.tail _ (.tail _ (.tail _ (.tail _ (.head _))))))
theorem m8 {α : Type u} {a x0 x1 x2 x3 x4 x5 x6 x7 : α} {l : List α} : a ∈ x0 :: x1 :: x2 :: x3 :: x4 :: x5 :: x6 :: x7 :: a :: l := .tail _ (.tail _ (.tail _ (.tail _ (.tail _ (.tail _ (.tail _ (.tail _ (.head _))))))))
theorem perm3 {α : Type} (a b c : α) (l : List α) : (a :: b :: c :: l).Perm (c :: a :: b :: l) := by
  have h1 : (a :: b :: c :: l).Perm (a :: c :: b :: l) := (List.Perm.swap c b l).cons a; exact h1.trans (.swap c a _)
theorem perm2 {α : Type} (a b : α) (l : List α) : (a :: b :: l).Perm (b :: a :: l) := .swap b a l
theorem perm4 {α : Type} (a b c d : α) (l : List α) : (a :: b :: c :: d :: l).Perm (d :: a :: b :: c :: l) := ((perm3 b c d l).cons a).trans (.swap d a _)
end Go.W
end
namespace Go.W
theorem X2 {l l' : Hp} (h : List.Perm l l' := by first | exact .refl _ | exact perm2 _ _ _ | exact perm3 _ _ _ _ | exact perm4 _ _ _ _ _) : List.Perm l l' := h
theorem px7 {b : Bool} (h : b = true := by first | rfl | assumption | exact bt1 (by assumption) | exact bt2 (by assumption)) : b = true := h
theorem bf_x {b : Bool} (h : b = false := by first | rfl | assumption | exact bf1 (by assumption) | exact bf2 (by assumption)) : b = false := h
theorem ret_u {k : Con Unit} {c : Cx} {fr : Fr} {hp : Hp} {L : List Fact} {fn : Func} {w0 : World} {t : Tmp} (hres : fn.results = #[.tmp t] := by exact rfl) (hv : lk fr t = some (k.val ()) := by exact rfl) (hb : c.b = k.entry w0 := by exact rfl) (hi : k.inv () := by exact trivial) (hh : (k.hpO ()).Sublist hp := by exact nK) (hL : LSub L (k.LO ()) := by exact trivial) (hD : c.D = [] := by exact rfl) : HQ c (bodyPost c.P fn (k.post w0)) .ret fr hp L := ret1 () hres hv hb hi hh hL hD
end Go.W
section
namespace Go.W
open Go Go.RowKit
section
variable {c : Cx} {Q : Exit → Act → World → Prop} {fr : Fr} {hp : Hp} {L : List Fact} {ops : Array Oper} {rest : List Oper}
variable {d : Tmp} {ty : TypeId} {pos : String} {af : Array Edge}
theorem jz2 (s : Str) : rows s = s.map (fun b => Value.int .u8 b.toNat) := by
  induction s with
  | nil => rfl
  | cons a s ih => rw [X6, ih]; rfl
theorem G3 {t e : TypeId} {x : Operand} {g : Nat} {cs : Array Value} {fz : Nat × Nat} {n : Nat} (hd : Nat.blt d c.n = true) (ht' : IsR c.P t) (hz' : Sz c.P t n) (hx : ev fr x = some (.pointer (d9 g))) (h : (g, Obj.cells cs e fz) ∈ hp) (hn : cs.size = n)
    (k : HL c ops Q rest ((d, .agg cs) :: fr) hp L) : HL c ops Q (⟨some d, .load t x, ty, pos, af, none⟩ :: rest) fr hp L :=
  z8 (cs := cs.toList) hd ht' hz' hx (by simpa using hn) (vE h (fun i u hu => by simpa using hu)) k
end
end Go.W
end
