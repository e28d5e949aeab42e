/- Texts of this claim, one behind another. -/
import Derived.Test.YtmpfpfbcejfijaaGreatDoorProg
import Derived.KernelRfl
import Derived.Laws.StructEq
import Derived.Laws.IdiomStrings
import Derived.MapKept
import Derived.Laws.Rows
import Derived.Deep.AppendSrc
import Derived.Deep.Upon
import Derived.Test.YtmpfpfbcejfijaaGreatDoorAAd
set_option linter.unusedVariables false
set_option linter.unusedSimpArgs false
section
namespace Go.Proofs.YtmpfpfbcejfijaaGreatDoor
open Go Go.W
theorem mixed : Tryz.prog.follows .mixedOrders = true := by kernel_rfl
namespace F
abbrev jT : Nat := 3
theorem sJ : Tryz.prog.funcs[jT]? = some Tryz.f3 := Tryz.func3
abbrev Y5 : Nat := 4
theorem jS : Tryz.prog.funcs[Y5]? = some Tryz.f4 := Tryz.func4
theorem w5 : Callable Tryz.prog Y5 := ⟨⟨_, Tryz.func4, by kernel_rfl, by kernel_rfl⟩⟩
abbrev iZ : Nat := 5
theorem xV : Tryz.prog.funcs[iZ]? = some Tryz.f5 := Tryz.func5
theorem vT : Callable Tryz.prog iZ := ⟨⟨_, Tryz.func5, by kernel_rfl, by kernel_rfl⟩⟩
abbrev S5 : Nat := 6
theorem cx9 : Tryz.prog.funcs[S5]? = some Tryz.f6 := Tryz.func6
theorem C9 : Callable Tryz.prog S5 := ⟨⟨_, Tryz.func6, by kernel_rfl, by kernel_rfl⟩⟩
abbrev cG : Nat := 7
theorem cx5 : Tryz.prog.funcs[cG]? = some Tryz.f7 := Tryz.func7
theorem pF : Callable Tryz.prog cG := ⟨⟨_, Tryz.func7, by kernel_rfl, by kernel_rfl⟩⟩
abbrev jK : Nat := 8
theorem cx4 : Tryz.prog.funcs[jK]? = some Tryz.f8 := Tryz.func8
theorem aj1 : Callable Tryz.prog jK := ⟨⟨_, Tryz.func8, by kernel_rfl, by kernel_rfl⟩⟩
abbrev aU : Nat := 9
theorem yS : Tryz.prog.funcs[aU]? = some Tryz.f9 := Tryz.func9
theorem wC : Callable Tryz.prog aU := ⟨⟨_, Tryz.func9, by kernel_rfl, by kernel_rfl⟩⟩
abbrev cI : Nat := 10
theorem cz0 : Tryz.prog.funcs[cI]? = some Tryz.f10 := Tryz.func10
theorem pH : Callable Tryz.prog cI := ⟨⟨_, Tryz.func10, by kernel_rfl, by kernel_rfl⟩⟩
abbrev qI : Nat := 11
theorem cj4 : Tryz.prog.funcs[qI]? = some Tryz.f11 := Tryz.func11
theorem pC : Callable Tryz.prog qI := ⟨⟨_, Tryz.func11, by kernel_rfl, by kernel_rfl⟩⟩
abbrev nF : Nat := 12
theorem gq4 : Tryz.prog.funcs[nF]? = some Tryz.f12 := Tryz.func12
theorem cx6 : Callable Tryz.prog nF := ⟨⟨_, Tryz.func12, by kernel_rfl, by kernel_rfl⟩⟩
abbrev X1 : Nat := 13
theorem cj6 : Tryz.prog.funcs[X1]? = some Tryz.f13 := Tryz.func13
theorem G7 : Callable Tryz.prog X1 := ⟨⟨_, Tryz.func13, by kernel_rfl, by kernel_rfl⟩⟩
abbrev cF : Nat := 14
theorem cx3 : Tryz.prog.funcs[cF]? = some Tryz.f14 := Tryz.func14
theorem pE : Callable Tryz.prog cF := ⟨⟨_, Tryz.func14, by kernel_rfl, by kernel_rfl⟩⟩
abbrev R3 : Nat := 15
theorem wJ : Tryz.prog.funcs[R3]? = some Tryz.f15 := Tryz.func15
theorem iI : Callable Tryz.prog R3 := ⟨⟨_, Tryz.func15, by kernel_rfl, by kernel_rfl⟩⟩
abbrev iG : Nat := 16
theorem gq5 : Tryz.prog.funcs[iG]? = some Tryz.f16 := Tryz.func16
theorem tF : Callable Tryz.prog iG := ⟨⟨_, Tryz.func16, by kernel_rfl, by kernel_rfl⟩⟩
abbrev lV : Nat := 17
theorem zS : Tryz.prog.funcs[lV]? = some Tryz.f17 := Tryz.func17
theorem V0 : Callable Tryz.prog lV := ⟨⟨_, Tryz.func17, by kernel_rfl, by kernel_rfl⟩⟩
abbrev cH : Nat := 18
theorem cx8 : Tryz.prog.funcs[cH]? = some Tryz.f18 := Tryz.func18
theorem pG : Callable Tryz.prog cH := ⟨⟨_, Tryz.func18, by kernel_rfl, by kernel_rfl⟩⟩
abbrev Z6 : Nat := 19
theorem aj0 : Tryz.prog.funcs[Z6]? = some Tryz.f19 := Tryz.func19
theorem mJ : Callable Tryz.prog Z6 := ⟨⟨_, Tryz.func19, by kernel_rfl, by kernel_rfl⟩⟩
abbrev X9 : Nat := 20
theorem cx7 : Tryz.prog.funcs[X9]? = some Tryz.f20 := Tryz.func20
theorem dX : Callable Tryz.prog X9 := ⟨⟨_, Tryz.func20, by kernel_rfl, by kernel_rfl⟩⟩
abbrev lT : Nat := 21
theorem zQ : Tryz.prog.funcs[lT]? = some Tryz.f21 := Tryz.func21
theorem O7 : Callable Tryz.prog lT := ⟨⟨_, Tryz.func21, by kernel_rfl, by kernel_rfl⟩⟩
abbrev lU : Nat := 22
theorem zR : Tryz.prog.funcs[lU]? = some Tryz.f22 := Tryz.func22
theorem bV : Callable Tryz.prog lU := ⟨⟨_, Tryz.func22, by kernel_rfl, by kernel_rfl⟩⟩
abbrev Z7 : Nat := 23
theorem aj2 : Tryz.prog.funcs[Z7]? = some Tryz.f23 := Tryz.func23
theorem mL : Callable Tryz.prog Z7 := ⟨⟨_, Tryz.func23, by kernel_rfl, by kernel_rfl⟩⟩
abbrev jJ : Nat := 24
theorem cx2 : Tryz.prog.funcs[jJ]? = some Tryz.f24 := Tryz.func24
theorem zZ : Callable Tryz.prog jJ := ⟨⟨_, Tryz.func24, by kernel_rfl, by kernel_rfl⟩⟩
abbrev jI : Nat := 25
theorem yR : Tryz.prog.funcs[jI]? = some Tryz.f25 := Tryz.func25
theorem s8 : Callable Tryz.prog jI := ⟨⟨_, Tryz.func25, by kernel_rfl, by kernel_rfl⟩⟩
abbrev X7 : Nat := 26
theorem rA : Tryz.prog.funcs[X7]? = some Tryz.f26 := Tryz.func26
theorem Q5 : Callable Tryz.prog X7 := ⟨⟨_, Tryz.func26, by kernel_rfl, by kernel_rfl⟩⟩
abbrev cq8 : Nat := 27
theorem kx2 : Tryz.prog.funcs[cq8]? = some Tryz.f27 := Tryz.func27
theorem qV : Callable Tryz.prog cq8 := ⟨⟨_, Tryz.func27, by kernel_rfl, by kernel_rfl⟩⟩
abbrev S4 : Nat := 28
theorem mG : Tryz.prog.funcs[S4]? = some Tryz.f28 := Tryz.func28
theorem N5 : Callable Tryz.prog S4 := ⟨⟨_, Tryz.func28, by kernel_rfl, by kernel_rfl⟩⟩
abbrev mI : Nat := 29
theorem zV : Tryz.prog.funcs[mI]? = some Tryz.f29 := Tryz.func29
theorem mH : Callable Tryz.prog mI := ⟨⟨_, Tryz.func29, by kernel_rfl, by kernel_rfl⟩⟩
abbrev tE : Nat := 30
theorem mK : Tryz.prog.funcs[tE]? = some Tryz.f30 := Tryz.func30
theorem wD : Callable Tryz.prog tE := ⟨⟨_, Tryz.func30, by kernel_rfl, by kernel_rfl⟩⟩
abbrev cE : Nat := 31
theorem Z5 : Tryz.prog.funcs[cE]? = some Tryz.f31 := Tryz.func31
theorem J5 : Callable Tryz.prog cE := ⟨⟨_, Tryz.func31, by kernel_rfl, by kernel_rfl⟩⟩
abbrev cB : Nat := 32
theorem uI : Tryz.prog.funcs[cB]? = some Tryz.f32 := Tryz.func32
theorem cX : Callable Tryz.prog cB := ⟨⟨_, Tryz.func32, by kernel_rfl, by kernel_rfl⟩⟩
abbrev qZ : Nat := 33
theorem cx0 : Tryz.prog.funcs[qZ]? = some Tryz.f33 := Tryz.func33
theorem R2 : Callable Tryz.prog qZ := ⟨⟨_, Tryz.func33, by kernel_rfl, by kernel_rfl⟩⟩
abbrev sZ : Nat := 34
theorem hz9 : Tryz.prog.funcs[sZ]? = some Tryz.f34 := Tryz.func34
theorem vI : Callable Tryz.prog sZ := ⟨⟨_, Tryz.func34, by kernel_rfl, by kernel_rfl⟩⟩
abbrev uH : Nat := 35
theorem gq3 : Tryz.prog.funcs[uH]? = some Tryz.f35 := Tryz.func35
theorem sY : Callable Tryz.prog uH := ⟨⟨_, Tryz.func35, by kernel_rfl, by kernel_rfl⟩⟩
abbrev aL : Nat := 36
theorem tB : Tryz.prog.funcs[aL]? = some Tryz.f36 := Tryz.func36
theorem cD : Callable Tryz.prog aL := ⟨⟨_, Tryz.func36, by kernel_rfl, by kernel_rfl⟩⟩
abbrev U0 : Nat := 37
theorem aj3 : Tryz.prog.funcs[U0]? = some Tryz.f37 := Tryz.func37
theorem yV : Callable Tryz.prog U0 := ⟨⟨_, Tryz.func37, by kernel_rfl, by kernel_rfl⟩⟩
abbrev qR : Nat := 38
theorem cq7 : Tryz.prog.funcs[qR]? = some Tryz.f38 := Tryz.func38
theorem dS : Callable Tryz.prog qR := ⟨⟨_, Tryz.func38, by kernel_rfl, by kernel_rfl⟩⟩
abbrev aJ : Nat := 39
theorem sU : Tryz.prog.funcs[aJ]? = some Tryz.f39 := Tryz.func39
theorem G5 : Callable Tryz.prog aJ := ⟨⟨_, Tryz.func39, by kernel_rfl, by kernel_rfl⟩⟩
abbrev Q2 : Nat := 40
theorem kK : Tryz.prog.funcs[Q2]? = some Tryz.f40 := Tryz.func40
theorem M2 : Callable Tryz.prog Q2 := ⟨⟨_, Tryz.func40, by kernel_rfl, by kernel_rfl⟩⟩
abbrev qW : Nat := 41
theorem cq9 : Tryz.prog.funcs[qW]? = some Tryz.f41 := Tryz.func41
theorem pD : Callable Tryz.prog qW := ⟨⟨_, Tryz.func41, by kernel_rfl, by kernel_rfl⟩⟩
abbrev J7 : Nat := 42
theorem aT : Tryz.prog.funcs[J7]? = some Tryz.f42 := Tryz.func42
theorem H4 : Callable Tryz.prog J7 := ⟨⟨_, Tryz.func42, by kernel_rfl, by kernel_rfl⟩⟩
abbrev Q0 : Nat := 43
theorem yW : Tryz.prog.funcs[Q0]? = some Tryz.f43 := Tryz.func43
theorem wI : Callable Tryz.prog Q0 := ⟨⟨_, Tryz.func43, by kernel_rfl, by kernel_rfl⟩⟩
abbrev lF : Nat := 44
theorem zH : Tryz.prog.funcs[lF]? = some Tryz.f44 := Tryz.func44
theorem lE : Callable Tryz.prog lF := ⟨⟨_, Tryz.func44, by kernel_rfl, by kernel_rfl⟩⟩
abbrev K1 : Nat := 45
theorem yU : Tryz.prog.funcs[K1]? = some Tryz.f45 := Tryz.func45
theorem wH : Callable Tryz.prog K1 := ⟨⟨_, Tryz.func45, by kernel_rfl, by kernel_rfl⟩⟩
abbrev jG : Nat := 46
theorem yQ : Tryz.prog.funcs[jG]? = some Tryz.f46 := Tryz.func46
theorem jY : Callable Tryz.prog jG := ⟨⟨_, Tryz.func46, by kernel_rfl, by kernel_rfl⟩⟩
abbrev aK : Nat := 47
theorem tA : Tryz.prog.funcs[aK]? = some Tryz.f47 := Tryz.func47
theorem cC : Callable Tryz.prog aK := ⟨⟨_, Tryz.func47, by kernel_rfl, by kernel_rfl⟩⟩
abbrev K4 : Nat := 48
theorem bQ : Tryz.prog.funcs[K4]? = some Tryz.f48 := Tryz.func48
theorem N6 : Callable Tryz.prog K4 := ⟨⟨_, Tryz.func48, by kernel_rfl, by kernel_rfl⟩⟩
abbrev jL : Nat := 49
theorem yT : Tryz.prog.funcs[jL]? = some Tryz.f49 := Tryz.func49
theorem wG : Callable Tryz.prog jL := ⟨⟨_, Tryz.func49, by kernel_rfl, by kernel_rfl⟩⟩
abbrev dW : Nat := 50
theorem wF : Tryz.prog.funcs[dW]? = some Tryz.f50 := Tryz.func50
theorem uM : Callable Tryz.prog dW := ⟨⟨_, Tryz.func50, by kernel_rfl, by kernel_rfl⟩⟩
abbrev iP : Nat := 51
theorem xK : Tryz.prog.funcs[iP]? = some Tryz.f51 := Tryz.func51
theorem A6 : Callable Tryz.prog iP := ⟨⟨_, Tryz.func51, by kernel_rfl, by kernel_rfl⟩⟩
abbrev X6 : Nat := 52
theorem jF : Tryz.prog.funcs[X6]? = some Tryz.f52 := Tryz.func52
theorem zU : Callable Tryz.prog X6 := ⟨⟨_, Tryz.func52, by kernel_rfl, by kernel_rfl⟩⟩
abbrev dV : Nat := 53
theorem wB : Tryz.prog.funcs[dV]? = some Tryz.f53 := Tryz.func53
theorem uJ : Callable Tryz.prog dV := ⟨⟨_, Tryz.func53, by kernel_rfl, by kernel_rfl⟩⟩
abbrev zX : Nat := 54
theorem jX : Tryz.prog.funcs[zX]? = some Tryz.f54 := Tryz.func54
abbrev zW : Nat := 55
theorem jW : Tryz.prog.funcs[zW]? = some Tryz.f55 := Tryz.func55
abbrev dR : Nat := 56
theorem vX : Tryz.prog.funcs[dR]? = some Tryz.f56 := Tryz.func56
theorem hU : Callable Tryz.prog dR := ⟨⟨_, Tryz.func56, by kernel_rfl, by kernel_rfl⟩⟩
abbrev lA : Nat := 57
theorem zE : Tryz.prog.funcs[lA]? = some Tryz.f57 := Tryz.func57
theorem kX : Callable Tryz.prog lA := ⟨⟨_, Tryz.func57, by kernel_rfl, by kernel_rfl⟩⟩
abbrev lD : Nat := 58
theorem zG : Tryz.prog.funcs[lD]? = some Tryz.f58 := Tryz.func58
theorem xF : Callable Tryz.prog lD := ⟨⟨_, Tryz.func58, by kernel_rfl, by kernel_rfl⟩⟩
abbrev N2 : Nat := 59
theorem gK : Tryz.prog.funcs[N2]? = some Tryz.f59 := Tryz.func59
theorem dK : Callable Tryz.prog N2 := ⟨⟨_, Tryz.func59, by kernel_rfl, by kernel_rfl⟩⟩
abbrev N3 : Nat := 60
theorem gX : Tryz.prog.funcs[N3]? = some Tryz.f60 := Tryz.func60
theorem dO : Callable Tryz.prog N3 := ⟨⟨_, Tryz.func60, by kernel_rfl, by kernel_rfl⟩⟩
abbrev kA : Nat := 61
theorem cZ : Tryz.prog.funcs[kA]? = some Tryz.f61 := Tryz.func61
theorem rC : Callable Tryz.prog kA := ⟨⟨_, Tryz.func61, by kernel_rfl, by kernel_rfl⟩⟩
abbrev O4 : Nat := 62
theorem iR : Tryz.prog.funcs[O4]? = some Tryz.f62 := Tryz.func62
theorem gN : Callable Tryz.prog O4 := ⟨⟨_, Tryz.func62, by kernel_rfl, by kernel_rfl⟩⟩
abbrev jZ : Nat := 63
theorem cY : Tryz.prog.funcs[jZ]? = some Tryz.f63 := Tryz.func63
theorem rB : Callable Tryz.prog jZ := ⟨⟨_, Tryz.func63, by kernel_rfl, by kernel_rfl⟩⟩
abbrev W2 : Nat := 64
theorem pN : Tryz.prog.funcs[W2]? = some Tryz.f64 := Tryz.func64
theorem nK : Callable Tryz.prog W2 := ⟨⟨_, Tryz.func64, by kernel_rfl, by kernel_rfl⟩⟩
abbrev aE : Nat := 65
theorem rP : Tryz.prog.funcs[aE]? = some Tryz.f65 := Tryz.func65
theorem pM : Callable Tryz.prog aE := ⟨⟨_, Tryz.func65, by kernel_rfl, by kernel_rfl⟩⟩
abbrev tN : Nat := 66
theorem dj1 : Tryz.prog.funcs[tN]? = some Tryz.f66 := Tryz.func66
theorem bq7 : Callable Tryz.prog tN := ⟨⟨_, Tryz.func66, by kernel_rfl, by kernel_rfl⟩⟩
abbrev W0 : Nat := 67
theorem pJ : Tryz.prog.funcs[W0]? = some Tryz.f67 := Tryz.func67
theorem nH : Callable Tryz.prog W0 := ⟨⟨_, Tryz.func67, by kernel_rfl, by kernel_rfl⟩⟩
abbrev J3 : Nat := 68
theorem aG : Tryz.prog.funcs[J3]? = some Tryz.f68 := Tryz.func68
theorem Z3 : Callable Tryz.prog J3 := ⟨⟨_, Tryz.func68, by kernel_rfl, by kernel_rfl⟩⟩
abbrev U3 : Nat := 69
theorem nL : Tryz.prog.funcs[U3]? = some Tryz.f69 := Tryz.func69
theorem lI : Callable Tryz.prog U3 := ⟨⟨_, Tryz.func69, by kernel_rfl, by kernel_rfl⟩⟩
abbrev pI : Nat := 70
theorem bq6 : Tryz.prog.funcs[pI]? = some Tryz.f70 := Tryz.func70
theorem nT : Callable Tryz.prog pI := ⟨⟨_, Tryz.func70, by kernel_rfl, by kernel_rfl⟩⟩
abbrev Q1 : Nat := 71
theorem kJ : Tryz.prog.funcs[Q1]? = some Tryz.f71 := Tryz.func71
theorem iT : Callable Tryz.prog Q1 := ⟨⟨_, Tryz.func71, by kernel_rfl, by kernel_rfl⟩⟩
abbrev G2 : Nat := 72
theorem kZ : Tryz.prog.funcs[G2]? = some Tryz.f72 := Tryz.func72
theorem kF : Callable Tryz.prog G2 := ⟨⟨_, Tryz.func72, by kernel_rfl, by kernel_rfl⟩⟩
abbrev dG : Nat := 73
theorem vO : Tryz.prog.funcs[dG]? = some Tryz.f73 := Tryz.func73
theorem K9 : Callable Tryz.prog dG := ⟨⟨_, Tryz.func73, by kernel_rfl, by kernel_rfl⟩⟩
abbrev O5 : Nat := 74
theorem iS : Tryz.prog.funcs[O5]? = some Tryz.f74 := Tryz.func74
theorem gO : Callable Tryz.prog O5 := ⟨⟨_, Tryz.func74, by kernel_rfl, by kernel_rfl⟩⟩
abbrev H1 : Nat := 75
theorem nJ : Tryz.prog.funcs[H1]? = some Tryz.f75 := Tryz.func75
theorem kY : Callable Tryz.prog H1 := ⟨⟨_, Tryz.func75, by kernel_rfl, by kernel_rfl⟩⟩
abbrev lB : Nat := 76
theorem zF : Tryz.prog.funcs[lB]? = some Tryz.f76 := Tryz.func76
theorem xE : Callable Tryz.prog lB := ⟨⟨_, Tryz.func76, by kernel_rfl, by kernel_rfl⟩⟩
abbrev R9 : Nat := 77
theorem lH : Tryz.prog.funcs[R9]? = some Tryz.f77 := Tryz.func77
theorem kI : Callable Tryz.prog R9 := ⟨⟨_, Tryz.func77, by kernel_rfl, by kernel_rfl⟩⟩
abbrev M4 : Nat := 78
theorem dN : Tryz.prog.funcs[M4]? = some Tryz.f78 := Tryz.func78
theorem cO : Callable Tryz.prog M4 := ⟨⟨_, Tryz.func78, by kernel_rfl, by kernel_rfl⟩⟩
abbrev xW : Nat := 79
abbrev vA : Nat := 80
abbrev wT : Nat := 81
abbrev W3 : Nat := 82
theorem pR : Tryz.prog.funcs[W3]? = some Tryz.f82 := Tryz.func82
theorem nN : Callable Tryz.prog W3 := ⟨⟨_, Tryz.func82, by kernel_rfl, by kernel_rfl⟩⟩
abbrev U4 : Nat := 83
theorem nM : Tryz.prog.funcs[U4]? = some Tryz.f83 := Tryz.func83
theorem lJ : Callable Tryz.prog U4 := ⟨⟨_, Tryz.func83, by kernel_rfl, by kernel_rfl⟩⟩
abbrev R8 : Nat := 84
theorem kW : Tryz.prog.funcs[R8]? = some Tryz.f84 := Tryz.func84
theorem kD : Callable Tryz.prog R8 := ⟨⟨_, Tryz.func84, by kernel_rfl, by kernel_rfl⟩⟩
abbrev dM : Nat := 85
theorem vS : Tryz.prog.funcs[dM]? = some Tryz.f85 := Tryz.func85
theorem tY : Callable Tryz.prog dM := ⟨⟨_, Tryz.func85, by kernel_rfl, by kernel_rfl⟩⟩
abbrev xX : Nat := 86
abbrev kx7 : Nat := 87
abbrev xY : Nat := 88
abbrev uZ : Nat := 89
abbrev az0 : Nat := 90
abbrev C5 : Nat := 92
theorem E4 : Tryz.prog.funcs[C5]? = some Tryz.f92 := Tryz.func92
theorem qH : Callable Tryz.prog C5 := ⟨⟨_, Tryz.func92, by kernel_rfl, by kernel_rfl⟩⟩
abbrev zD : Nat := 93
abbrev zC : Nat := 94
abbrev L8 : Nat := 111
theorem qU : Tryz.prog.funcs[L8]? = some Tryz.f111 := Tryz.func111
theorem nP : Callable Tryz.prog L8 := ⟨⟨_, Tryz.func111, by kernel_rfl, by kernel_rfl⟩⟩
abbrev M8 : Nat := 112
theorem tD : Tryz.prog.funcs[M8]? = some Tryz.f112 := Tryz.func112
theorem qY : Callable Tryz.prog M8 := ⟨⟨_, Tryz.func112, by kernel_rfl, by kernel_rfl⟩⟩
abbrev M7 : Nat := 113
theorem tC : Tryz.prog.funcs[M7]? = some Tryz.f113 := Tryz.func113
theorem qX : Callable Tryz.prog M7 := ⟨⟨_, Tryz.func113, by kernel_rfl, by kernel_rfl⟩⟩
abbrev I9 : Nat := 116
theorem kV : Tryz.prog.funcs[I9]? = some Tryz.f116 := Tryz.func116
theorem kC : Callable Tryz.prog I9 := ⟨⟨_, Tryz.func116, by kernel_rfl, by kernel_rfl⟩⟩
abbrev J0 : Nat := 117
theorem lC : Tryz.prog.funcs[J0]? = some Tryz.f117 := Tryz.func117
theorem kG : Callable Tryz.prog J0 := ⟨⟨_, Tryz.func117, by kernel_rfl, by kernel_rfl⟩⟩
abbrev K8 : Nat := 118
theorem pL : Tryz.prog.funcs[K8]? = some Tryz.f118 := Tryz.func118
theorem nI : Callable Tryz.prog K8 := ⟨⟨_, Tryz.func118, by kernel_rfl, by kernel_rfl⟩⟩
abbrev mj9 : Nat := 125
end F
namespace T
abbrev int64 : Nat := 2
abbrev int : Nat := 3
theorem cz8 : Tryz.prog.underlying int = some (.int .i64) := Tryz.underlying3
theorem v0 : Sz Tryz.prog int 1 := by unfold Sz; kernel_rfl
theorem a9 : NoR Tryz.prog int := ⟨_, Tryz.underlying3, rfl⟩
abbrev bool : Nat := 4
theorem wO : Sz Tryz.prog bool 1 := by unfold Sz; kernel_rfl
theorem hZ : NoR Tryz.prog bool := ⟨_, Tryz.underlying4, rfl⟩
abbrev u8 : Nat := 5
abbrev string : Nat := 9
theorem kU : Tryz.prog.underlying string = some (.string) := Tryz.underlying9
theorem s6 : NoR Tryz.prog string := ⟨_, Tryz.underlying9, rfl⟩
abbrev int32 : Nat := 21
abbrev Z9 : Nat := 23
theorem D3 : Sz Tryz.prog Z9 6 := by unfold Sz; kernel_rfl
theorem G0 : IsR Tryz.prog Z9 := ⟨_, Tryz.underlying23, rfl⟩
abbrev ints : Nat := 24
theorem q9 : Tryz.prog.underlying ints = some (.slice 3) := Tryz.underlying24
theorem ij7 : Sz Tryz.prog ints 1 := by unfold Sz; kernel_rfl
theorem d5 : NoR Tryz.prog ints := ⟨_, Tryz.underlying24, rfl⟩
theorem cq2 : ElT Tryz.prog ints 3 1 8 := ElT.of (z := (.int .i64 0)) Tryz.underlying24 (by kernel_rfl) rfl (by decide)
abbrev aX : Nat := 25
theorem v9 : Tryz.prog.underlying aX = some (.slice 30) := Tryz.underlying25
theorem jO : Sz Tryz.prog aX 1 := by unfold Sz; kernel_rfl
theorem i7 : NoR Tryz.prog aX := ⟨_, Tryz.underlying25, rfl⟩
theorem vV : ElT Tryz.prog aX 30 3 24 := ElT.of (z := (.agg #[(.int .i64 0), (.int .i64 0), (.int .i64 0)])) Tryz.underlying25 (by kernel_rfl) rfl (by decide)
abbrev m8 : Nat := 27
theorem j4 : Sz Tryz.prog m8 8 := by unfold Sz; kernel_rfl
theorem j5 : IsR Tryz.prog m8 := ⟨_, Tryz.underlying27, rfl⟩
abbrev v6 : Nat := 30
theorem j7 : Sz Tryz.prog v6 3 := by unfold Sz; kernel_rfl
theorem l3 : IsR Tryz.prog v6 := ⟨_, Tryz.underlying30, rfl⟩
abbrev api_Errno : Nat := 32
abbrev vK : Nat := 40
theorem bN : Sz Tryz.prog vK 2 := by unfold Sz; kernel_rfl
theorem vR : IsR Tryz.prog vK := ⟨_, Tryz.underlying40, rfl⟩
abbrev aj7 : Nat := 41
theorem aD : Tryz.prog.underlying aj7 = some (.slice 40) := Tryz.underlying41
abbrev ij2 : Nat := 48
theorem M1 : Tryz.prog.underlying ij2 = some (.slice 93) := Tryz.underlying48
abbrev intss : Nat := 50
theorem u_intss : Tryz.prog.underlying intss = some (.slice 24) := Tryz.underlying50
abbrev vN : Nat := 55
theorem D9 : Tryz.prog.underlying vN = some (.slice 106) := Tryz.underlying55
theorem r6 : NoR Tryz.prog vN := ⟨_, Tryz.underlying55, rfl⟩
abbrev zA : Nat := 56
theorem w8 : Tryz.prog.underlying zA = some (.slice 101) := Tryz.underlying56
theorem m3 : NoR Tryz.prog zA := ⟨_, Tryz.underlying56, rfl⟩
abbrev z4 : Nat := 58
theorem t5 : Sz Tryz.prog z4 2 := by unfold Sz; kernel_rfl
theorem t1 : IsR Tryz.prog z4 := ⟨_, Tryz.underlying58, rfl⟩
abbrev bold_advert : Nat := 67
abbrev aj6 : Nat := 68
theorem s5 : NoR Tryz.prog aj6 := ⟨_, Tryz.underlying68, rfl⟩
abbrev sN : Nat := 73
theorem jN : Sz Tryz.prog sN 1 := by unfold Sz; kernel_rfl
theorem sV : NoR Tryz.prog sN := ⟨_, Tryz.underlying73, rfl⟩
abbrev I0 : Nat := 75
theorem u5 : Sz Tryz.prog I0 2 := by unfold Sz; kernel_rfl
theorem A3 : IsR Tryz.prog I0 := ⟨_, Tryz.underlying75, rfl⟩
abbrev kN : Nat := 76
theorem y0 : NoR Tryz.prog kN := ⟨_, Tryz.underlying76, rfl⟩
abbrev L9 : Nat := 82
theorem z7 : Sz Tryz.prog L9 3 := by unfold Sz; kernel_rfl
theorem E0 : IsR Tryz.prog L9 := ⟨_, Tryz.underlying82, rfl⟩
abbrev aH : Nat := 86
theorem U1 : NoR Tryz.prog aH := ⟨_, Tryz.underlying86, rfl⟩
abbrev v4 : Nat := 88
theorem E3 : Sz Tryz.prog v4 5 := by unfold Sz; kernel_rfl
abbrev vM : Nat := 89
theorem Y3 : Tryz.prog.underlying vM = some (.slice 82) := Tryz.underlying89
theorem yK : ElT Tryz.prog vM 82 3 40 := ElT.of (z := (.agg #[(.slice none 0 0), (.int .i64 0), (.int .i64 0)])) Tryz.underlying89 (by kernel_rfl) rfl (by decide)
abbrev gq7 : Nat := 93
theorem Z0 : Sz Tryz.prog gq7 2 := by unfold Sz; kernel_rfl
theorem bz4 : IsR Tryz.prog gq7 := ⟨_, Tryz.underlying93, rfl⟩
abbrev zB : Nat := 95
theorem R7 : Tryz.prog.underlying zB = some (.slice 103) := Tryz.underlying95
theorem dj5 : Sz Tryz.prog zB 1 := by unfold Sz; kernel_rfl
theorem zT : NoR Tryz.prog zB := ⟨_, Tryz.underlying95, rfl⟩
abbrev uint : Nat := 97
theorem gx6 : Tryz.prog.underlying uint = some (.int .u64) := Tryz.underlying97
abbrev ij0 : Nat := 98
theorem rL : Tryz.prog.underlying ij0 = some (.int .u64) := Tryz.underlying98
abbrev tK : Nat := 101
theorem E8 : Sz Tryz.prog tK 4 := by unfold Sz; kernel_rfl
theorem iU : IsR Tryz.prog tK := ⟨_, Tryz.underlying101, rfl⟩
abbrev aN : Nat := 103
theorem cz9 : Tryz.prog.underlying aN = some (.slice 4) := Tryz.underlying103
theorem aZ : Sz Tryz.prog aN 1 := by unfold Sz; kernel_rfl
theorem cU : NoR Tryz.prog aN := ⟨_, Tryz.underlying103, rfl⟩
theorem kj8 : ElT Tryz.prog aN 4 1 1 := ElT.of (z := (.bool false)) Tryz.underlying103 (by kernel_rfl) rfl (by decide)
abbrev func_int_bool : Nat := 104
abbrev bq0 : Nat := 106
theorem H9 : Sz Tryz.prog bq0 2 := by unfold Sz; kernel_rfl
theorem dL : IsR Tryz.prog bq0 := ⟨_, Tryz.underlying106, rfl⟩
abbrev bold_tariff : Nat := 110
abbrev cA : Nat := 112
theorem zJ : Sz Tryz.prog cA 1 := by unfold Sz; kernel_rfl
abbrev iD : Nat := 114
theorem bx5 : Sz Tryz.prog iD 2 := by unfold Sz; kernel_rfl
abbrev nE : Nat := 115
theorem bx4 : Sz Tryz.prog nE 2 := by unfold Sz; kernel_rfl
abbrev bY : Nat := 116
theorem kH : Sz Tryz.prog bY 1 := by unfold Sz; kernel_rfl
theorem t3 : NoR Tryz.prog bY := ⟨_, Tryz.underlying116, rfl⟩
abbrev bj6 : Nat := 117
theorem bx3 : Sz Tryz.prog bj6 1 := by unfold Sz; kernel_rfl
theorem mE : NoR Tryz.prog bj6 := ⟨_, Tryz.underlying117, rfl⟩
abbrev yZ : Nat := 118
theorem K7 : Tryz.prog.underlying yZ = some (.slice 75) := Tryz.underlying118
abbrev zY : Nat := 121
theorem tP : Sz Tryz.prog zY 2 := by unfold Sz; kernel_rfl
abbrev cj2 : Nat := 122
theorem bJ : Tryz.prog.underlying cj2 = some (.map 3 4) := Tryz.underlying122
abbrev P_trade_list : Nat := 129
abbrev gx2 : Nat := 136
abbrev hq8 : Nat := 138
abbrev R6 : Nat := 141
theorem rM : Tryz.prog.underlying R6 = some (.slice 157) := Tryz.underlying141
theorem pP : Sz Tryz.prog R6 1 := by unfold Sz; kernel_rfl
theorem z5 : NoR Tryz.prog R6 := ⟨_, Tryz.underlying141, rfl⟩
theorem qQ : ElT Tryz.prog R6 157 1 1 := ElT.of (z := (.int .u8 0)) Tryz.underlying141 (by kernel_rfl) rfl (by decide)
abbrev aW : Nat := 142
theorem bK : Tryz.prog.underlying aW = some (.slice 147) := Tryz.underlying142
theorem aF : Sz Tryz.prog aW 1 := by unfold Sz; kernel_rfl
theorem m5 : NoR Tryz.prog aW := ⟨_, Tryz.underlying142, rfl⟩
theorem aI : ElT Tryz.prog aW 147 1 16 := ElT.of (z := .nilIface) Tryz.underlying142 (by kernel_rfl) rfl (by decide)
abbrev pK : Nat := 144
abbrev chan_int : Nat := 145
abbrev W1 : Nat := 147
theorem zI : Sz Tryz.prog W1 1 := by unfold Sz; kernel_rfl
theorem vY : NoR Tryz.prog W1 := ⟨_, Tryz.underlying147, rfl⟩
abbrev A24_uint8 : Nat := 148
abbrev u64 : Nat := 149
abbrev L_uint8 : Nat := 152
abbrev dE : Nat := 157
theorem tO : Sz Tryz.prog dE 1 := by unfold Sz; kernel_rfl
theorem qS : NoR Tryz.prog dE := ⟨_, Tryz.underlying157, rfl⟩
abbrev nU : Nat := 160
abbrev nV : Nat := 162
abbrev uR : Nat := 164
abbrev A20_uint64 : Nat := 168
abbrev uint32 : Nat := 169
abbrev A65_uint8 : Nat := 170
abbrev A32_uint8 : Nat := 177
abbrev A64_uint8 : Nat := 178
theorem I8 (p : Addr) (w : World) : (Instr.fieldAt 23 (.pointer (some p)) 0).run Tryz.prog w = .ok (.pointer (some (p.add 0))) w := by kernel_rfl
theorem I7 (p : Addr) (w : World) : (Instr.fieldAt 23 (.pointer (some p)) 1).run Tryz.prog w = .ok (.pointer (some (p.add 1))) w := by kernel_rfl
theorem I6 (p : Addr) (w : World) : (Instr.fieldAt 23 (.pointer (some p)) 2).run Tryz.prog w = .ok (.pointer (some (p.add 2))) w := by kernel_rfl
theorem I5 (p : Addr) (w : World) : (Instr.fieldAt 23 (.pointer (some p)) 3).run Tryz.prog w = .ok (.pointer (some (p.add 3))) w := by kernel_rfl
theorem G4 (p : Addr) (w : World) : (Instr.fieldAt 23 (.pointer (some p)) 4).run Tryz.prog w = .ok (.pointer (some (p.add 4))) w := by kernel_rfl
theorem I4 (p : Addr) (w : World) : (Instr.fieldAt 23 (.pointer (some p)) 5).run Tryz.prog w = .ok (.pointer (some (p.add 5))) w := by kernel_rfl
theorem A9 (p : Addr) (w : World) : (Instr.fieldAt 27 (.pointer (some p)) 0).run Tryz.prog w = .ok (.pointer (some (p.add 0))) w := by kernel_rfl
theorem t9 (p : Addr) (w : World) : (Instr.fieldAt 27 (.pointer (some p)) 1).run Tryz.prog w = .ok (.pointer (some (p.add 6))) w := by kernel_rfl
theorem p9 (p : Addr) (w : World) : (Instr.fieldAt 27 (.pointer (some p)) 2).run Tryz.prog w = .ok (.pointer (some (p.add 7))) w := by kernel_rfl
theorem C8 (p : Addr) (w : World) : (Instr.fieldAt 30 (.pointer (some p)) 0).run Tryz.prog w = .ok (.pointer (some (p.add 0))) w := by kernel_rfl
theorem J9 (p : Addr) (w : World) : (Instr.fieldAt 30 (.pointer (some p)) 1).run Tryz.prog w = .ok (.pointer (some (p.add 1))) w := by kernel_rfl
theorem C7 (p : Addr) (w : World) : (Instr.fieldAt 30 (.pointer (some p)) 2).run Tryz.prog w = .ok (.pointer (some (p.add 2))) w := by kernel_rfl
theorem P8 (p : Addr) (w : World) : (Instr.fieldAt 40 (.pointer (some p)) 0).run Tryz.prog w = .ok (.pointer (some (p.add 0))) w := by kernel_rfl
theorem P7 (p : Addr) (w : World) : (Instr.fieldAt 40 (.pointer (some p)) 1).run Tryz.prog w = .ok (.pointer (some (p.add 1))) w := by kernel_rfl
theorem C6 (p : Addr) (w : World) : (Instr.fieldAt 58 (.pointer (some p)) 0).run Tryz.prog w = .ok (.pointer (some (p.add 0))) w := by kernel_rfl
theorem p6 (p : Addr) (w : World) : (Instr.fieldAt 58 (.pointer (some p)) 1).run Tryz.prog w = .ok (.pointer (some (p.add 1))) w := by kernel_rfl
theorem H2 (p : Addr) (w : World) : (Instr.fieldAt 75 (.pointer (some p)) 0).run Tryz.prog w = .ok (.pointer (some (p.add 0))) w := by kernel_rfl
theorem V4 (p : Addr) (w : World) : (Instr.fieldAt 75 (.pointer (some p)) 1).run Tryz.prog w = .ok (.pointer (some (p.add 1))) w := by kernel_rfl
theorem p8 (p : Addr) (w : World) : (Instr.fieldAt 82 (.pointer (some p)) 0).run Tryz.prog w = .ok (.pointer (some (p.add 0))) w := by kernel_rfl
theorem B8 (p : Addr) (w : World) : (Instr.fieldAt 82 (.pointer (some p)) 1).run Tryz.prog w = .ok (.pointer (some (p.add 1))) w := by kernel_rfl
theorem u4 (p : Addr) (w : World) : (Instr.fieldAt 82 (.pointer (some p)) 2).run Tryz.prog w = .ok (.pointer (some (p.add 2))) w := by kernel_rfl
theorem l8 (p : Addr) (w : World) : (Instr.fieldAt 88 (.pointer (some p)) 0).run Tryz.prog w = .ok (.pointer (some (p.add 0))) w := by kernel_rfl
theorem r7 (p : Addr) (w : World) : (Instr.fieldAt 88 (.pointer (some p)) 1).run Tryz.prog w = .ok (.pointer (some (p.add 3))) w := by kernel_rfl
theorem J4 (p : Addr) (w : World) : (Instr.fieldAt 88 (.pointer (some p)) 2).run Tryz.prog w = .ok (.pointer (some (p.add 4))) w := by kernel_rfl
theorem Y8 (p : Addr) (w : World) : (Instr.fieldAt 93 (.pointer (some p)) 0).run Tryz.prog w = .ok (.pointer (some (p.add 0))) w := by kernel_rfl
theorem Y7 (p : Addr) (w : World) : (Instr.fieldAt 93 (.pointer (some p)) 1).run Tryz.prog w = .ok (.pointer (some (p.add 1))) w := by kernel_rfl
theorem E1 (p : Addr) (w : World) : (Instr.fieldAt 101 (.pointer (some p)) 0).run Tryz.prog w = .ok (.pointer (some (p.add 0))) w := by kernel_rfl
theorem z8 (p : Addr) (w : World) : (Instr.fieldAt 101 (.pointer (some p)) 1).run Tryz.prog w = .ok (.pointer (some (p.add 1))) w := by kernel_rfl
theorem B5 (p : Addr) (w : World) : (Instr.fieldAt 101 (.pointer (some p)) 2).run Tryz.prog w = .ok (.pointer (some (p.add 2))) w := by kernel_rfl
theorem B4 (p : Addr) (w : World) : (Instr.fieldAt 101 (.pointer (some p)) 3).run Tryz.prog w = .ok (.pointer (some (p.add 3))) w := by kernel_rfl
theorem L7 (p : Addr) (w : World) : (Instr.fieldAt 106 (.pointer (some p)) 0).run Tryz.prog w = .ok (.pointer (some (p.add 0))) w := by kernel_rfl
theorem H0 (p : Addr) (w : World) : (Instr.fieldAt 106 (.pointer (some p)) 1).run Tryz.prog w = .ok (.pointer (some (p.add 1))) w := by kernel_rfl
theorem jU (p : Addr) (w : World) : (Instr.fieldAt 112 (.pointer (some p)) 0).run Tryz.prog w = .ok (.pointer (some (p.add 0))) w := by kernel_rfl
theorem V3 (p : Addr) (w : World) : (Instr.fieldAt 114 (.pointer (some p)) 0).run Tryz.prog w = .ok (.pointer (some (p.add 0))) w := by kernel_rfl
theorem V2 (p : Addr) (w : World) : (Instr.fieldAt 114 (.pointer (some p)) 1).run Tryz.prog w = .ok (.pointer (some (p.add 1))) w := by kernel_rfl
theorem mA (p : Addr) (w : World) : (Instr.fieldAt 115 (.pointer (some p)) 0).run Tryz.prog w = .ok (.pointer (some (p.add 0))) w := by kernel_rfl
theorem V1 (p : Addr) (w : World) : (Instr.fieldAt 115 (.pointer (some p)) 1).run Tryz.prog w = .ok (.pointer (some (p.add 1))) w := by kernel_rfl
theorem qN (p : Addr) (w : World) : (Instr.fieldAt 121 (.pointer (some p)) 0).run Tryz.prog w = .ok (.pointer (some (p.add 0))) w := by kernel_rfl
theorem qM (p : Addr) (w : World) : (Instr.fieldAt 121 (.pointer (some p)) 1).run Tryz.prog w = .ok (.pointer (some (p.add 1))) w := by kernel_rfl
theorem J8 (p : Addr) (w : World) : (Instr.fieldAt 144 (.pointer (some p)) 1).run Tryz.prog w = .ok (.pointer (some (p.add 2))) w := by kernel_rfl
theorem u6 (p : Addr) (w : World) : (Instr.fieldAt 144 (.pointer (some p)) 2).run Tryz.prog w = .ok (.pointer (some (p.add 3))) w := by kernel_rfl
theorem bW (p : Addr) (w : World) : (Instr.fieldAt 160 (.pointer (some p)) 0).run Tryz.prog w = .ok (.pointer (some (p.add 0))) w := by kernel_rfl
theorem bX (p : Addr) (w : World) : (Instr.fieldAt 162 (.pointer (some p)) 1).run Tryz.prog w = .ok (.pointer (some (p.add 1))) w := by kernel_rfl
theorem hC (p : Addr) (w : World) : (Instr.fieldAt 164 (.pointer (some p)) 0).run Tryz.prog w = .ok (.pointer (some (p.add 0))) w := by kernel_rfl
theorem nj7 (w : World) : (Instr.alloc 3 true (.tuple #[])).run Tryz.prog w = .ok (.pointer (some ⟨w.heap.size, 0, none⟩)) (w.alloc (.cells #[(.int .i64 0)] 3 (0, 0))) := by kernel_rfl
theorem mO (w : World) : (Instr.alloc 23 true (.tuple #[])).run Tryz.prog w = .ok (.pointer (some ⟨w.heap.size, 0, none⟩)) (w.alloc (.cells #[(.int .i64 0), (.int .i64 0), (.int .i64 0), (.int .i64 0), (.int .i64 0), (.int .i64 0)] 23 (0, 0))) := by kernel_rfl
theorem al_ints (w : World) : (Instr.alloc 24 true (.tuple #[])).run Tryz.prog w = .ok (.pointer (some ⟨w.heap.size, 0, none⟩)) (w.alloc (.cells #[(.slice none 0 0)] 24 (0, 0))) := by kernel_rfl
theorem K3 (w : World) : (Instr.alloc 27 true (.tuple #[])).run Tryz.prog w = .ok (.pointer (some ⟨w.heap.size, 0, none⟩)) (w.alloc (.cells #[(.int .i64 0), (.int .i64 0), (.int .i64 0), (.int .i64 0), (.int .i64 0), (.int .i64 0), (.slice none 0 0), (.slice none 0 0)] 27 (0, 0))) := by kernel_rfl
theorem I2 (w : World) : (Instr.alloc 30 true (.tuple #[])).run Tryz.prog w = .ok (.pointer (some ⟨w.heap.size, 0, none⟩)) (w.alloc (.cells #[(.int .i64 0), (.int .i64 0), (.int .i64 0)] 30 (0, 0))) := by kernel_rfl
theorem yY (w : World) : (Instr.alloc 40 true (.tuple #[])).run Tryz.prog w = .ok (.pointer (some ⟨w.heap.size, 0, none⟩)) (w.alloc (.cells #[(.int .i64 0), (.int .i64 0)] 40 (0, 0))) := by kernel_rfl
theorem aj5 (w : World) : (Instr.alloc 58 true (.tuple #[])).run Tryz.prog w = .ok (.pointer (some ⟨w.heap.size, 0, none⟩)) (w.alloc (.cells #[(.slice none 0 0), (.slice none 0 0)] 58 (0, 0))) := by kernel_rfl
theorem wM (w : World) : (Instr.alloc 75 true (.tuple #[])).run Tryz.prog w = .ok (.pointer (some ⟨w.heap.size, 0, none⟩)) (w.alloc (.cells #[(.int .i64 0), .nilFunc] 75 (0, 0))) := by kernel_rfl
theorem aV (w : World) : (Instr.alloc 82 true (.tuple #[])).run Tryz.prog w = .ok (.pointer (some ⟨w.heap.size, 0, none⟩)) (w.alloc (.cells #[(.slice none 0 0), (.int .i64 0), (.int .i64 0)] 82 (0, 0))) := by kernel_rfl
theorem E6 (w : World) : (Instr.alloc 88 true (.tuple #[])).run Tryz.prog w = .ok (.pointer (some ⟨w.heap.size, 0, none⟩)) (w.alloc (.cells #[(.slice none 0 0), (.int .i64 0), (.int .i64 0), (.bool false), .nilFunc] 88 (0, 0))) := by kernel_rfl
theorem gq8 (w : World) : (Instr.alloc 93 true (.tuple #[])).run Tryz.prog w = .ok (.pointer (some ⟨w.heap.size, 0, none⟩)) (w.alloc (.cells #[(.int .i64 0), (.int .i64 0)] 93 (0, 0))) := by kernel_rfl
theorem gq9 (w : World) : (Instr.alloc 95 true (.tuple #[])).run Tryz.prog w = .ok (.pointer (some ⟨w.heap.size, 0, none⟩)) (w.alloc (.cells #[(.slice none 0 0)] 95 (0, 0))) := by kernel_rfl
theorem vL (w : World) : (Instr.alloc 101 true (.tuple #[])).run Tryz.prog w = .ok (.pointer (some ⟨w.heap.size, 0, none⟩)) (w.alloc (.cells #[(.string ⟨#[]⟩), (.int .i64 0), (.int .i64 0), (.slice none 0 0)] 101 (0, 0))) := by kernel_rfl
theorem kx5 (w : World) : (Instr.alloc 103 true (.tuple #[])).run Tryz.prog w = .ok (.pointer (some ⟨w.heap.size, 0, none⟩)) (w.alloc (.cells #[(.slice none 0 0)] 103 (0, 0))) := by kernel_rfl
theorem tL (w : World) : (Instr.alloc 106 true (.tuple #[])).run Tryz.prog w = .ok (.pointer (some ⟨w.heap.size, 0, none⟩)) (w.alloc (.cells #[(.string ⟨#[]⟩), (.int .i64 0)] 106 (0, 0))) := by kernel_rfl
theorem aj4 (w : World) : (Instr.alloc 112 true (.tuple #[])).run Tryz.prog w = .ok (.pointer (some ⟨w.heap.size, 0, none⟩)) (w.alloc (.cells #[(.pointer none)] 112 (0, 0))) := by kernel_rfl
theorem cz4 (w : World) : (Instr.alloc 114 true (.tuple #[])).run Tryz.prog w = .ok (.pointer (some ⟨w.heap.size, 0, none⟩)) (w.alloc (.cells #[(.pointer none), (.int .i64 0)] 114 (0, 0))) := by kernel_rfl
theorem cz3 (w : World) : (Instr.alloc 115 true (.tuple #[])).run Tryz.prog w = .ok (.pointer (some ⟨w.heap.size, 0, none⟩)) (w.alloc (.cells #[(.pointer none), (.int .i64 0)] 115 (0, 0))) := by kernel_rfl
theorem kQ (w : World) : (Instr.alloc 116 true (.tuple #[])).run Tryz.prog w = .ok (.pointer (some ⟨w.heap.size, 0, none⟩)) (w.alloc (.cells #[(.chan none)] 116 (0, 0))) := by kernel_rfl
theorem cz2 (w : World) : (Instr.alloc 117 true (.tuple #[])).run Tryz.prog w = .ok (.pointer (some ⟨w.heap.size, 0, none⟩)) (w.alloc (.cells #[(.chan none)] 117 (0, 0))) := by kernel_rfl
theorem uQ (w : World) : (Instr.alloc 121 true (.tuple #[])).run Tryz.prog w = .ok (.pointer (some ⟨w.heap.size, 0, none⟩)) (w.alloc (.cells #[(.int .i64 0), (.int .i64 0)] 121 (0, 0))) := by kernel_rfl
theorem P0 (x1 : Int) (x2 : Int) (x3 : Int) (x4 : Int) (x5 : Int) (x6 : Int) (w : World) : (Instr.build 23 #[(0, (.int .i64 x1)), (1, (.int .i64 x2)), (2, (.int .i64 x3)), (3, (.int .i64 x4)), (4, (.int .i64 x5)), (5, (.int .i64 x6))]).run Tryz.prog w = .ok (.agg #[(.int .i64 x1), (.int .i64 x2), (.int .i64 x3), (.int .i64 x4), (.int .i64 x5), (.int .i64 x6)]) w := by kernel_rfl
theorem cJ (x1 : Int) (x2 : Int) (x3 : Int) (x4 : Int) (x5 : Int) (x6 : Int) (x7 : Option Addr) (x8 : Nat) (x9 : Nat) (x10 : Option Addr) (x11 : Nat) (x12 : Nat) (w : World) : (Instr.build 27 #[(0, (.agg #[(.int .i64 x1), (.int .i64 x2), (.int .i64 x3), (.int .i64 x4), (.int .i64 x5), (.int .i64 x6)])), (1, (.slice x7 x8 x9)), (2, (.slice x10 x11 x12))]).run Tryz.prog w = .ok (.agg #[(.int .i64 x1), (.int .i64 x2), (.int .i64 x3), (.int .i64 x4), (.int .i64 x5), (.int .i64 x6), (.slice x7 x8 x9), (.slice x10 x11 x12)]) w := by kernel_rfl
theorem V6  (w : World) : (Instr.build 30 #[]).run Tryz.prog w = .ok (.agg #[(.int .i64 0), (.int .i64 0), (.int .i64 0)]) w := by kernel_rfl
theorem z3 (x1 : Int) (x2 : Int) (x3 : Int) (w : World) : (Instr.build 30 #[(0, (.int .i64 x1)), (1, (.int .i64 x2)), (2, (.int .i64 x3))]).run Tryz.prog w = .ok (.agg #[(.int .i64 x1), (.int .i64 x2), (.int .i64 x3)]) w := by kernel_rfl
theorem cK (x1 : Int) (x2 : Int) (w : World) : (Instr.build 40 #[(0, (.int .i64 x1)), (1, (.int .i64 x2))]).run Tryz.prog w = .ok (.agg #[(.int .i64 x1), (.int .i64 x2)]) w := by kernel_rfl
theorem tH (x1 : Option Addr) (x2 : Nat) (x3 : Nat) (x4 : Option Addr) (x5 : Nat) (x6 : Nat) (w : World) : (Instr.build 58 #[(0, (.slice x1 x2 x3)), (1, (.slice x4 x5 x6))]).run Tryz.prog w = .ok (.agg #[(.slice x1 x2 x3), (.slice x4 x5 x6)]) w := by kernel_rfl
theorem mN (x1 : Option Addr) (x2 : Nat) (x3 : Nat) (w : World) : (Instr.build 82 #[(0, (.slice x1 x2 x3))]).run Tryz.prog w = .ok (.agg #[(.slice x1 x2 x3), (.int .i64 0), (.int .i64 0)]) w := by kernel_rfl
theorem D6 (x1 : Fn) (x2 : Array Value) (x3 : Array Value) (w : World) : (Instr.build 88 #[(2, (.func x1 x2 x3))]).run Tryz.prog w = .ok (.agg #[(.slice none 0 0), (.int .i64 0), (.int .i64 0), (.bool false), (.func x1 x2 x3)]) w := by kernel_rfl
theorem aM (x1 : Int) (x2 : Int) (w : World) : (Instr.build 93 #[(0, (.int .i64 x1)), (1, (.int .i64 x2))]).run Tryz.prog w = .ok (.agg #[(.int .i64 x1), (.int .i64 x2)]) w := by kernel_rfl
theorem O3 (x1 : ByteArray) (x2 : Int) (x3 : Int) (w : World) : (Instr.build 101 #[(0, (.string x1)), (1, (.int .i64 x2)), (2, (.int .i64 x3))]).run Tryz.prog w = .ok (.agg #[(.string x1), (.int .i64 x2), (.int .i64 x3), (.slice none 0 0)]) w := by kernel_rfl
theorem nS (x1 : ByteArray) (x2 : Int) (x3 : Int) (x4 : Option Addr) (x5 : Nat) (x6 : Nat) (w : World) : (Instr.build 101 #[(0, (.string x1)), (1, (.int .i64 x2)), (2, (.int .i64 x3)), (3, (.slice x4 x5 x6))]).run Tryz.prog w = .ok (.agg #[(.string x1), (.int .i64 x2), (.int .i64 x3), (.slice x4 x5 x6)]) w := by kernel_rfl
theorem tI (x1 : ByteArray) (x2 : Int) (x3 : Option Addr) (x4 : Nat) (x5 : Nat) (w : World) : (Instr.build 101 #[(0, (.string x1)), (2, (.int .i64 x2)), (3, (.slice x3 x4 x5))]).run Tryz.prog w = .ok (.agg #[(.string x1), (.int .i64 0), (.int .i64 x2), (.slice x3 x4 x5)]) w := by kernel_rfl
theorem yX (x1 : ByteArray) (w : World) : (Instr.build 106 #[(0, (.string x1))]).run Tryz.prog w = .ok (.agg #[(.string x1), (.int .i64 0)]) w := by kernel_rfl
theorem Y0 (x1 : ByteArray) (x2 : Int) (w : World) : (Instr.build 106 #[(0, (.string x1)), (1, (.int .i64 x2))]).run Tryz.prog w = .ok (.agg #[(.string x1), (.int .i64 x2)]) w := by kernel_rfl
theorem jM (x1 : Int) (x2 : Int) (x3 : Int) (x4 : Int) (w : World) : (Instr.build 110 #[(0, (.int .i64 x1)), (1, (.int .i64 x2)), (2, (.int .i64 x3)), (3, (.int .i64 x4))]).run Tryz.prog w = .ok (.agg #[(.int .i64 x1), (.int .i64 x2), (.int .i64 x3), (.int .i64 x4)]) w := by kernel_rfl
theorem wL (x1 : Option Addr) (w : World) : (Instr.build 112 #[(0, (.pointer x1))]).run Tryz.prog w = .ok (.agg #[(.pointer x1)]) w := by kernel_rfl
theorem uP (x1 : Option Addr) (x2 : Int) (w : World) : (Instr.build 114 #[(0, (.pointer x1)), (1, (.int .i64 x2))]).run Tryz.prog w = .ok (.agg #[(.pointer x1), (.int .i64 x2)]) w := by kernel_rfl
theorem uO (x1 : Option Addr) (x2 : Int) (w : World) : (Instr.build 115 #[(0, (.pointer x1)), (1, (.int .i64 x2))]).run Tryz.prog w = .ok (.agg #[(.pointer x1), (.int .i64 x2)]) w := by kernel_rfl
theorem Z8 (x1 : Int) (x2 : Int) (w : World) : (Instr.build 121 #[(0, (.int .i64 x1)), (1, (.int .i64 x2))]).run Tryz.prog w = .ok (.agg #[(.int .i64 x1), (.int .i64 x2)]) w := by kernel_rfl
theorem wK (x1 : Option Addr) (x2 : Nat) (x3 : Nat) (x4 : Option Addr) (x5 : Nat) (x6 : Nat) (w : World) : (Instr.build 144 #[(0, (.agg #[(.slice x1 x2 x3), (.slice x4 x5 x6)]))]).run Tryz.prog w = .ok (.agg #[(.slice x1 x2 x3), (.slice x4 x5 x6), (.slice none 0 0), (.slice none 0 0)]) w := by kernel_rfl
theorem rI (x1 : Int) (w : World) : (Instr.build 160 #[(0, (.int .i64 x1))]).run Tryz.prog w = .ok (.agg #[(.int .i64 x1)]) w := by kernel_rfl
theorem mM (x1 : Int) (x2 : Option Addr) (x3 : Nat) (x4 : Nat) (w : World) : (Instr.build 162 #[(0, (.int .i64 x1)), (1, (.slice x2 x3 x4))]).run Tryz.prog w = .ok (.agg #[(.int .i64 x1), (.slice x2 x3 x4)]) w := by kernel_rfl
theorem uN (x1 : Option Addr) (x2 : Nat) (x3 : Nat) (w : World) : (Instr.build 164 #[(0, (.slice x1 x2 x3))]).run Tryz.prog w = .ok (.agg #[(.slice x1 x2 x3)]) w := by kernel_rfl
theorem N1 (x1 : Int) (w : World) : (Instr.buildSlice 24 1 #[(0, (.int .i64 x1))]).run Tryz.prog w = .ok (.slice (some ⟨w.heap.size, 0, none⟩) 1 1) (w.alloc (.cells #[(.int .i64 x1)] 3 (0, 0))) := by kernel_rfl
theorem S9 (x1 : Int) (x2 : Int) (w : World) : (Instr.buildSlice 24 2 #[(0, (.int .i64 x1)), (1, (.int .i64 x2))]).run Tryz.prog w = .ok (.slice (some ⟨w.heap.size, 0, none⟩) 2 2) (w.alloc (.cells #[(.int .i64 x1), (.int .i64 x2)] 3 (0, 0))) := by kernel_rfl
theorem M9 (x1 : Int) (x2 : Int) (x3 : Int) (w : World) : (Instr.buildSlice 24 3 #[(0, (.int .i64 x1)), (1, (.int .i64 x2)), (2, (.int .i64 x3))]).run Tryz.prog w = .ok (.slice (some ⟨w.heap.size, 0, none⟩) 3 3) (w.alloc (.cells #[(.int .i64 x1), (.int .i64 x2), (.int .i64 x3)] 3 (0, 0))) := by kernel_rfl
theorem kx0 (x1 : Int) (x2 : Int) (x3 : Int) (x4 : Int) (w : World) : (Instr.buildSlice 24 4 #[(0, (.int .i64 x1)), (1, (.int .i64 x2)), (2, (.int .i64 x3)), (3, (.int .i64 x4))]).run Tryz.prog w = .ok (.slice (some ⟨w.heap.size, 0, none⟩) 4 4) (w.alloc (.cells #[(.int .i64 x1), (.int .i64 x2), (.int .i64 x3), (.int .i64 x4)] 3 (0, 0))) := by kernel_rfl
theorem kq9 (x1 : Int) (x2 : Int) (x3 : Int) (x4 : Int) (x5 : Int) (x6 : Int) (w : World) : (Instr.buildSlice 24 6 #[(0, (.int .i64 x1)), (1, (.int .i64 x2)), (2, (.int .i64 x3)), (3, (.int .i64 x4)), (4, (.int .i64 x5)), (5, (.int .i64 x6))]).run Tryz.prog w = .ok (.slice (some ⟨w.heap.size, 0, none⟩) 6 6) (w.alloc (.cells #[(.int .i64 x1), (.int .i64 x2), (.int .i64 x3), (.int .i64 x4), (.int .i64 x5), (.int .i64 x6)] 3 (0, 0))) := by kernel_rfl
theorem sX (x1 : Int) (x2 : Int) (x3 : Int) (w : World) : (Instr.buildSlice 25 1 #[(0, (.agg #[(.int .i64 x1), (.int .i64 x2), (.int .i64 x3)]))]).run Tryz.prog w = .ok (.slice (some ⟨w.heap.size, 0, none⟩) 1 1) (w.alloc (.cells #[(.int .i64 x1), (.int .i64 x2), (.int .i64 x3)] 30 (0, 0))) := by kernel_rfl
theorem sW (x1 : Int) (x2 : Int) (x3 : Int) (x4 : Int) (x5 : Int) (x6 : Int) (w : World) : (Instr.buildSlice 25 2 #[(0, (.agg #[(.int .i64 x1), (.int .i64 x2), (.int .i64 x3)])), (1, (.agg #[(.int .i64 x4), (.int .i64 x5), (.int .i64 x6)]))]).run Tryz.prog w = .ok (.slice (some ⟨w.heap.size, 0, none⟩) 2 2) (w.alloc (.cells #[(.int .i64 x1), (.int .i64 x2), (.int .i64 x3), (.int .i64 x4), (.int .i64 x5), (.int .i64 x6)] 30 (0, 0))) := by kernel_rfl
theorem cV (x1 : Int) (x2 : Int) (x3 : Int) (x4 : Int) (x5 : Int) (x6 : Int) (x7 : Int) (x8 : Int) (x9 : Int) (w : World) : (Instr.buildSlice 25 3 #[(0, (.agg #[(.int .i64 x1), (.int .i64 x2), (.int .i64 x3)])), (1, (.agg #[(.int .i64 x4), (.int .i64 x5), (.int .i64 x6)])), (2, (.agg #[(.int .i64 x7), (.int .i64 x8), (.int .i64 x9)]))]).run Tryz.prog w = .ok (.slice (some ⟨w.heap.size, 0, none⟩) 3 3) (w.alloc (.cells #[(.int .i64 x1), (.int .i64 x2), (.int .i64 x3), (.int .i64 x4), (.int .i64 x5), (.int .i64 x6), (.int .i64 x7), (.int .i64 x8), (.int .i64 x9)] 30 (0, 0))) := by kernel_rfl
theorem qT (x1 : Int) (x2 : Int) (x3 : Int) (x4 : Int) (w : World) : (Instr.buildSlice 41 2 #[(0, (.agg #[(.int .i64 x1), (.int .i64 x2)])), (1, (.agg #[(.int .i64 x3), (.int .i64 x4)]))]).run Tryz.prog w = .ok (.slice (some ⟨w.heap.size, 0, none⟩) 2 2) (w.alloc (.cells #[(.int .i64 x1), (.int .i64 x2), (.int .i64 x3), (.int .i64 x4)] 40 (0, 0))) := by kernel_rfl
theorem wA (x1 : Int) (x2 : Int) (x3 : Int) (x4 : Int) (x5 : Int) (x6 : Int) (w : World) : (Instr.buildSlice 48 3 #[(0, (.agg #[(.int .i64 x1), (.int .i64 x2)])), (1, (.agg #[(.int .i64 x3), (.int .i64 x4)])), (2, (.agg #[(.int .i64 x5), (.int .i64 x6)]))]).run Tryz.prog w = .ok (.slice (some ⟨w.heap.size, 0, none⟩) 3 3) (w.alloc (.cells #[(.int .i64 x1), (.int .i64 x2), (.int .i64 x3), (.int .i64 x4), (.int .i64 x5), (.int .i64 x6)] 93 (0, 0))) := by kernel_rfl
theorem hz8 (x1 : Option Addr) (x2 : Nat) (x3 : Nat) (x4 : Option Addr) (x5 : Nat) (x6 : Nat) (x7 : Option Addr) (x8 : Nat) (x9 : Nat) (w : World) : (Instr.buildSlice 50 3 #[(0, (.slice x1 x2 x3)), (1, (.slice x4 x5 x6)), (2, (.slice x7 x8 x9))]).run Tryz.prog w = .ok (.slice (some ⟨w.heap.size, 0, none⟩) 3 3) (w.alloc (.cells #[(.slice x1 x2 x3), (.slice x4 x5 x6), (.slice x7 x8 x9)] 24 (0, 0))) := by kernel_rfl
theorem uG (x1 : ByteArray) (x2 : Int) (x3 : ByteArray) (x4 : Int) (x5 : ByteArray) (x6 : Int) (x7 : ByteArray) (x8 : Int) (w : World) : (Instr.buildSlice 55 4 #[(0, (.agg #[(.string x1), (.int .i64 x2)])), (1, (.agg #[(.string x3), (.int .i64 x4)])), (2, (.agg #[(.string x5), (.int .i64 x6)])), (3, (.agg #[(.string x7), (.int .i64 x8)]))]).run Tryz.prog w = .ok (.slice (some ⟨w.heap.size, 0, none⟩) 4 4) (w.alloc (.cells #[(.string x1), (.int .i64 x2), (.string x3), (.int .i64 x4), (.string x5), (.int .i64 x6), (.string x7), (.int .i64 x8)] 106 (0, 0))) := by kernel_rfl
theorem vZ (x1 : ByteArray) (x2 : Int) (x3 : Int) (x4 : Option Addr) (x5 : Nat) (x6 : Nat) (x7 : ByteArray) (x8 : Int) (x9 : Int) (x10 : Option Addr) (x11 : Nat) (x12 : Nat) (x13 : ByteArray) (x14 : Int) (x15 : Int) (x16 : Option Addr) (x17 : Nat) (x18 : Nat) (x19 : ByteArray) (x20 : Int) (x21 : Int) (x22 : Option Addr) (x23 : Nat) (x24 : Nat) (x25 : ByteArray) (x26 : Int) (x27 : Int) (x28 : Option Addr) (x29 : Nat) (x30 : Nat) (x31 : ByteArray) (x32 : Int) (x33 : Int) (x34 : Option Addr) (x35 : Nat) (x36 : Nat) (w : World) : (Instr.buildSlice 56 6 #[(0, (.agg #[(.string x1), (.int .i64 x2), (.int .i64 x3), (.slice x4 x5 x6)])), (1, (.agg #[(.string x7), (.int .i64 x8), (.int .i64 x9), (.slice x10 x11 x12)])), (2, (.agg #[(.string x13), (.int .i64 x14), (.int .i64 x15), (.slice x16 x17 x18)])), (3, (.agg #[(.string x19), (.int .i64 x20), (.int .i64 x21), (.slice x22 x23 x24)])), (4, (.agg #[(.string x25), (.int .i64 x26), (.int .i64 x27), (.slice x28 x29 x30)])), (5, (.agg #[(.string x31), (.int .i64 x32), (.int .i64 x33), (.slice x34 x35 x36)]))]).run Tryz.prog w = .ok (.slice (some ⟨w.heap.size, 0, none⟩) 6 6) (w.alloc (.cells #[(.string x1), (.int .i64 x2), (.int .i64 x3), (.slice x4 x5 x6), (.string x7), (.int .i64 x8), (.int .i64 x9), (.slice x10 x11 x12), (.string x13), (.int .i64 x14), (.int .i64 x15), (.slice x16 x17 x18), (.string x19), (.int .i64 x20), (.int .i64 x21), (.slice x22 x23 x24), (.string x25), (.int .i64 x26), (.int .i64 x27), (.slice x28 x29 x30), (.string x31), (.int .i64 x32), (.int .i64 x33), (.slice x34 x35 x36)] 101 (0, 0))) := by kernel_rfl
theorem uF (x1 : Option Addr) (x2 : Nat) (x3 : Nat) (x4 : Int) (x5 : Int) (w : World) : (Instr.buildSlice 89 1 #[(0, (.agg #[(.slice x1 x2 x3), (.int .i64 x4), (.int .i64 x5)]))]).run Tryz.prog w = .ok (.slice (some ⟨w.heap.size, 0, none⟩) 1 1) (w.alloc (.cells #[(.slice x1 x2 x3), (.int .i64 x4), (.int .i64 x5)] 82 (0, 0))) := by kernel_rfl
theorem gq2 (x1 : Bool) (w : World) : (Instr.buildSlice 103 1 #[(0, (.bool x1))]).run Tryz.prog w = .ok (.slice (some ⟨w.heap.size, 0, none⟩) 1 1) (w.alloc (.cells #[(.bool x1)] 4 (0, 0))) := by kernel_rfl
theorem mF (x1 : Int) (w : World) : (Instr.buildSlice 141 1 #[(0, (.int .u8 x1))]).run Tryz.prog w = .ok (.slice (some ⟨w.heap.size, 0, none⟩) 1 1) (w.alloc (.cells #[(.int .u8 x1)] 157 (0, 0))) := by kernel_rfl
theorem V5 (x1 : Nat) (x2 : Value) (w : World) : (Instr.buildSlice 142 1 #[(0, (.iface x1 x2))]).run Tryz.prog w = .ok (.slice (some ⟨w.heap.size, 0, none⟩) 1 1) (w.alloc (.cells #[(.iface x1 x2)] 147 (0, 0))) := by kernel_rfl
theorem yJ (a0 b0 : Int) (a1 b1 : Int) (a2 b2 : Int) (w : World) : (Op.equalIn 10000 30 (.agg #[.int .i64 a0, .int .i64 a1, .int .i64 a2]) (.agg #[.int .i64 b0, .int .i64 b1, .int .i64 b2])).run Tryz.prog w = .ok (decide ((a0, a1, a2) = (b0, b1, b2))) w := by
  rw [run_equalIn_agg w 9999 30 _ _ (by simp only [Program.fieldsOf, Tryz.underlying30]) (by kernel_rfl)]; simp only [Program.fieldsOf, Tryz.underlying30]
  by_cases h0 : a0 = b0 <;> by_cases h1 : a1 = b1 <;> by_cases h2 : a2 = b2 <;>
    simp [Op.eqFields, part, isAgg, run_equalIn_int _ 9998 3 .i64 .i64 _ _ Tryz.underlying3, run_underlying Tryz.underlying3, h0, h1, h2]
theorem lS (a0 b0 : Int) (a1 b1 : Int) (a2 b2 : Int) (w : World) : (binOp .neq 30 (.agg #[.int .i64 a0, .int .i64 a1, .int .i64 a2]) (.agg #[.int .i64 b0, .int .i64 b1, .int .i64 b2])).run Tryz.prog w = .ok (.bool (decide (¬ (a0, a1, a2) = (b0, b1, b2)))) w := by rw [run_neq_struct, yJ, decide_not]; rfl
theorem mD (op : BinOp) (x y : Operand) (xs ys : Array Value) (w : World) : (eqGuard op 30 x y (.agg xs) (.agg ys)).run Tryz.prog w = .ok () w := run_eqGuard_agg w op 30 x y xs ys (by kernel_rfl)
end T
end Go.Proofs.YtmpfpfbcejfijaaGreatDoor
end
section
namespace Go.W
universe u
open Go Go.RowKit
class El (α : Type) extends Inhabited α where
  cells : α → List Value
  sz : Nat
  len : ∀ a, (cells a).length = sz
  one : ∀ a, ∀ u ∈ cells a, u.oneCell' = true
def rows {α : Type} [El α] (l : List α) : List Value := l.flatMap El.cells
instance : El Str where
  default := []
  cells s := [str s]
  sz := 1
  len _ := rfl
  one a u h := by simp at h; subst h; rfl
instance : El Int where
  default := 0
  cells n := [int n]
  sz := 1
  len _ := rfl
  one a u h := by simp at h; subst h; rfl
instance : El UInt8 where
  default := 0
  cells n := [.int .u8 n.toNat]
  sz := 1
  len _ := rfl
  one a u h := by simp at h; subst h; rfl
abbrev Mk := Int × Int × Str
instance : El Mk where
  default := (0, 0, [])
  cells m := [int m.1, int m.2.1, str m.2.2]
  sz := 3
  len _ := rfl
  one a u h := by simp at h; rcases h with h | h | h <;> subst h <;> rfl
structure Sl (α : Type) where
  a : Option Addr
  c : Nat
  l : List α
instance {α : Type} : El (Sl α) where
  default := ⟨none, 0, []⟩
  cells p := [.slice p.a p.l.length p.c]
  sz := 1
  len _ := rfl
  one a u h := by simp at h; subst h; rfl
section
variable {α : Type} [El α]
theorem xM : rows ([] : List α) = [] := rfl
theorem P5 (a : α) (l : List α) : rows (a :: l) = El.cells a ++ rows l := rfl
theorem E9 (l l' : List α) : rows (l ++ l') = rows l ++ rows l' := by simp [rows]
theorem Q9 (l : List α) : (rows l).length = l.length * El.sz α := by
  induction l with
  | nil => simp [xM]
  | cons a l ih => rw [P5, List.length_append, El.len, ih, List.length_cons, Nat.add_mul, Nat.one_mul, Nat.add_comm]
theorem Q8 (l : List α) : ∀ u ∈ rows l, u.oneCell' = true := by
  intro u hu; obtain ⟨a, _, h⟩ := List.mem_flatMap.1 hu; exact El.one a u h
theorem jj6 (l : List α) (k : Nat) : (rows l).drop (k * El.sz α) = rows (l.drop k) := by
  induction l generalizing k with
  | nil => simp [xM]
  | cons a l ih =>
    cases k with
    | zero => simp
    | succ k =>
      rw [P5, List.drop_succ_cons, ← ih, List.drop_append, El.len, List.drop_eq_nil_of_le (by rw [El.len, Nat.succ_mul]; omega), List.nil_append]
      congr 1
      rw [Nat.succ_mul]
      omega
theorem rows_get' (l : List α) (i j : Nat) (hi : i < l.length) (hj : j < El.sz α) : (rows l)[i * El.sz α + j]? = (El.cells (l.getD i default))[j]? := by
  have h := congrArg (·[j]?) (jj6 l i); simp only [List.getElem?_drop] at h; rw [h, List.drop_eq_getElem_cons hi, P5, List.getElem?_append_left (by rw [El.len]; exact hj)]
  simp [List.getD_eq_getElem?_getD, hi]
theorem rows_get {l : List α} {i j : Nat} {v : Value} (hi : i < l.length) (hv : (El.cells (l.getD i default))[j]? = some v) : (rows l)[i * El.sz α + j]? = some v := by
  have hj : j < El.sz α := by
    have := (List.getElem?_eq_some_iff.1 hv).1
    rwa [El.len] at this
  rw [rows_get' l i j hi hj, hv]
theorem d4 {l : List α} {i : Nat} {v : Value} (hi : i < l.length) (hv : (El.cells (l.getD i default))[0]? = some v) : (rows l)[i * El.sz α]? = some v := rows_get (j := 0) hi hv
theorem q8 {l : List α} {i : Nat} (hi : i < l.length) : ∀ j u, (El.cells (l.getD i default))[j]? = some u → (rows l)[i * El.sz α + j]? = some u := fun j u h => rows_get hi h
theorem rows_lt {l : List α} {i : Nat} (hi : i < l.length) (h0 : 0 < El.sz α) : i * El.sz α < (rows l).length := by
  rw [Q9]; exact Nat.mul_lt_mul_of_pos_right hi h0
end
theorem xO {c : Cx} {Q : Exit → Act → World → Prop} {fr : Fr} {hp : Hp} {L : List Fact} {ops : Array Oper} {rest : List Oper} {d : Tmp} {ty : TypeId} {pos : String} {af : Array Edge}
    {s t : TypeId} {x : Operand} {ks k k' : IntKind} {a : Int} (z : Int) (hd : Nat.blt d c.n = true) (hs : c.P.underlying s = some (.int ks)) (ht : c.P.underlying t = some (.int k')) (hx : ev fr x = some (.int k a)) (hz : k'.wrap a = z)
    (kk : HL c ops Q rest ((d, .int k' z) :: fr) hp L) : HL c ops Q (⟨some d, .convert s t x, ty, pos, af, none⟩ :: rest) fr hp L :=
  B7 _ rfl rfl hd (fun a' w ha _ => by
    simp only [execOp, ha.ev hx, Sem.run_bind, convert, run_underlying hs, run_underlying ht, Result.andThen_ok]; rw [← hz]
    cases ks <;> rfl) kk
theorem r_quo {c : Cx} {Q : Exit → Act → World → Prop} {fr : Fr} {hp : Hp} {L : List Fact} {ops : Array Oper} {rest : List Oper} {d : Tmp} {ty : TypeId} {pos : String} {af : Array Edge}
    {t yt : TypeId} {x y : Operand} {kd : IntKind} {a b : Int} (z : Int) (hd : Nat.blt d c.n = true) (hx : ev fr x = some (.int kd a)) (hy : ev fr y = some (.int kd b)) (hb : b ≠ 0) (hz : kd.wrap (a.tdiv b) = z)
    (kk : HL c ops Q rest ((d, .int kd z) :: fr) hp L) : HL c ops Q (⟨some d, .binOp .quo t x y yt, ty, pos, af, none⟩ :: rest) fr hp L :=
  q7 _ hd hx hy (fun _ => rfl) (fun w => by
    have : (binOp .quo t (.int kd a) (.int kd b)) = Op.intDiv .quo kd a b := by cases kd <;> rfl
    rw [this]
    simp [Op.intDiv, hb, hz]) kk
theorem w3 {α : Type} [El α] {c : Cx} {Q : Exit → Act → World → Prop} {fr : Fr} {hp : Hp} {L : List Fact} {ops : Array Oper} {rest : List Oper} {d : Tmp} {ty : TypeId} {pos : String} {af : Array Edge}
    {t e : TypeId} {x i : Operand} {A : Option Addr} {n cp : Nat} {kd : IntKind} {z : Int} (l : List α) (j : Nat) (hd : Nat.blt d c.n = true) (ht : c.P.underlying t = some (.slice e)) (hz : Sz c.P e (El.sz α))
    (hx : ev fr x = some (.slice A n cp)) (hi : ev fr i = some (.int kd z)) (hjz : z = (j : Int)) (hr : Row A (rows l) ∈ L) (hn : n = l.length) (hj : j < l.length) (h0 : 0 < El.sz α)
    (k : HL c ops Q rest ((d, .pointer (some ((adr A).add (j * El.sz α)))) :: fr) hp L) : HL c ops Q (⟨some d, .indexAddr t x i, ty, pos, af, none⟩ :: rest) fr hp L :=
  dq5 j hd ht hz hx hi hjz (by omega) hr (rows_lt hj h0) k
def Rows2 {α : Type} [El α] (A : Option Addr) (ps : List (Sl α)) : Fact where
  P w := (Row A (rows ps)).P w ∧ ∀ p ∈ ps, (Row p.a (rows p.l)).P w
  fp k := (Row A (rows ps)).fp k ∨ ∃ p ∈ ps, (Row p.a (rows p.l)).fp k
  st w w' h hP := ⟨(Row A (rows ps)).st w w' (fun k hk => h k (.inl hk)) hP.1, fun p hp => (Row p.a (rows p.l)).st w w' (fun k hk => h k (.inr ⟨p, hp, hk⟩)) (hP.2 p hp)⟩
  lt w hP k hk := by
    rcases hk with hk | ⟨p, hp, hk⟩
    · exact (Row A (rows ps)).lt w hP.1 k hk
    exact (Row p.a (rows p.l)).lt w (hP.2 p hp) k hk
section
variable {c : Cx} {Q : Exit → Act → World → Prop} {fr : Fr} {hp : Hp} {L : List Fact} {ops : Array Oper} {rest : List Oper}
variable {d : Tmp} {ty : TypeId} {pos : String} {af : Array Edge}
theorem p_t {x y z : Operand} {v : Value} {b : Bool} (hd : Nat.blt d c.n = true) (hx : ev fr x = some (.bool b)) (hb : b = true) (hy : ev fr y = some v) (k : HL c ops Q rest ((d, v) :: fr) hp L) : HL c ops Q (⟨some d, .pick x y z, ty, pos, af, none⟩ :: rest) fr hp L := by
  subst hb; exact lq4 hd hx hy k
theorem p_f {x y z : Operand} {v : Value} {b : Bool} (hd : Nat.blt d c.n = true) (hx : ev fr x = some (.bool b)) (hb : b = false) (hz : ev fr z = some v) (k : HL c ops Q rest ((d, v) :: fr) hp L) : HL c ops Q (⟨some d, .pick x y z, ty, pos, af, none⟩ :: rest) fr hp L := by
  subst hb; exact lq5 hd hx hz k
theorem c_t {x : Operand} {b : Bool} {thn els : Code} (hx : ev fr x = some (.bool b)) (hb : b = true) (ht : HC c thn Q fr hp L) : HC c (.cond x thn els) Q fr hp L := by subst hb; exact jz4 hx ht
theorem c_f {x : Operand} {b : Bool} {thn els : Code} (hx : ev fr x = some (.bool b)) (hb : b = false) (hf : HC c els Q fr hp L) : HC c (.cond x thn els) Q fr hp L := by subst hb; exact jz5 hx hf
theorem bt1 {b : Bool} (h : (b == true) = true) : b = true := by cases b <;> simp_all
theorem bt2 {b : Bool} (h : (b == false) = false) : b = true := by cases b <;> simp_all
theorem bf1 {b : Bool} (h : (b == false) = true) : b = false := by cases b <;> simp_all
theorem bf2 {b : Bool} (h : (b == true) = false) : b = false := by cases b <;> simp_all
theorem gn {b : Bool} (h : (b == true) = true) : (b == false) = false := by cases b <;> simp_all
theorem R1 {o : Oper} {j : Nat} {want : Bool} {t : Tmp} {v : Value} (ho : o.dst = some d) (hg : o.guard = some (j, want)) (hd : Nat.blt d c.n = true) (hj : (ops[j]?).bind (·.dst) = some t) (hv : lk fr t = some v) (hu : v = undef)
    (k : HL c ops Q rest ((d, undef) :: fr) hp L) : HL c ops Q (o :: rest) fr hp L := by
  subst hu; intro a w ha hw; refine cz5 ?_ ?_
  · rw [Region.wanted, hg]
    show (yielded ops a.tmps j == some want) = false; have h1 := ha.at_ t _ hv
    have : yielded ops a.tmps j = none := by
      unfold yielded; rw [hj]; simp only [Option.bind_some]
      cases h2 : a.tmps[t]? with
      | none => rfl
      | some u => simp [Array.getD_eq_getD_getElem?, h2, undef] at h1; rw [h1]
    rw [this]; rfl
  rw [ho]; exact k _ _ (ha.put (by simpa using hd) _) hw
theorem r5 {dst : Option Tmp} {op : Op} {j : Nat} {want b : Bool} {t : Tmp} (hj : (ops[j]?).bind (·.dst) = some t) (hv : lk fr t = some (.bool b))
    (hy : (b == want) = true → HL c ops Q (⟨dst, op, ty, pos, af, some (j, want)⟩ :: rest) fr hp L) (hn : (b == want) = false → HL c ops Q (⟨dst, op, ty, pos, af, some (j, want)⟩ :: rest) fr hp L) :
    HL c ops Q (⟨dst, op, ty, pos, af, some (j, want)⟩ :: rest) fr hp L := by
  cases hb : (b == want)
  · exact hn hb
  exact hy hb
theorem dz6 {O0 : Hp} {K : Env → Prop} {r : List Oper} {E : Env} {want b : Bool} {t : Tmp} (hv : lkE E t = some (.ex (.bool b))) (hy : (b == want) = true → HB c ops fr O0 hp L K r E) (hn : (b == want) = false → HB c ops fr O0 hp L K r E) : HB c ops fr O0 hp L K r E := by
  cases hb : (b == want)
  · exact hn hb
  exact hy hb
theorem m7 {x : Operand} {p : Prop} [Decidable p] {thn els : Code} (hx : ev fr x = some (.bool (decide p))) (ht : p → HC c thn Q fr hp L) (hf : ¬ p → HC c els Q fr hp L) : HC c (.cond x thn els) Q fr hp L :=
  k4 hx (fun h => ht (of_decide_eq_true h)) (fun h => hf (of_decide_eq_false h))
end
theorem m0 {α : Type u} {a  : α} {l : List α} : a ∈ a :: l := .head _
theorem m1 {α : Type u} {a x0 : α} {l : List α} : a ∈ x0 :: a :: l := .tail _ (.head _)
theorem m2 {α : Type u} {a x0 x1 : α} {l : List α} : a ∈ x0 :: x1 :: a :: l := .tail _ (.tail _ (.head _))
theorem perm3 {α : Type} (a b c : α) (l : List α) : (a :: b :: c :: l).Perm (c :: a :: b :: l) := by
  have h1 : (a :: b :: c :: l).Perm (a :: c :: b :: l) := (List.Perm.swap c b l).cons a; exact h1.trans (.swap c a _)
theorem perm2 {α : Type} (a b : α) (l : List α) : (a :: b :: l).Perm (b :: a :: l) := .swap b a l
theorem perm4 {α : Type} (a b c d : α) (l : List α) : (a :: b :: c :: d :: l).Perm (d :: a :: b :: c :: l) := ((perm3 b c d l).cons a).trans (.swap d a _)
end Go.W
end
section
namespace Go.W
open Go Go.RowKit
section
variable {c : Cx} {Q : Exit → Act → World → Prop} {fr : Fr} {hp : Hp} {L : List Fact} {ops : Array Oper} {rest : List Oper}
variable {d : Tmp} {ty : TypeId} {pos : String} {af : Array Edge}
theorem u1 {t e : TypeId} {x : Operand} {g : Nat} {cs : Array Value} {fz : Nat × Nat} {n : Nat} (hd : Nat.blt d c.n = true) (ht' : IsR c.P t) (hz' : Sz c.P t n) (hx : ev fr x = some (.pointer (b4 g))) (h : (g, Obj.cells cs e fz) ∈ hp) (hn : cs.size = n)
    (k : HL c ops Q rest ((d, .agg cs) :: fr) hp L) : HL c ops Q (⟨some d, .load t x, ty, pos, af, none⟩ :: rest) fr hp L :=
  r8 (cs := cs.toList) hd ht' hz' hx (by simpa using hn) (bG h (fun i u hu => by simpa using hu)) k
end
end Go.W
end
section
namespace Go.W
open Go Go.RowKit
abbrev Ment (κ : Type) := κ × Value × Nat
def entOf {κ : Type} (enc : κ → Value) (p : Ment κ) : MapEntry := ⟨enc p.1, p.2.1, p.2.2⟩
def mapO {κ : Type} (enc : κ → Value) (l : List (Ment κ)) (clk : Nat) : Obj := .map (l.map (entOf enc)).toArray clk
def findM {κ : Type} [DecidableEq κ] (k : κ) : List (Ment κ) → Nat → Option (Nat × Value)
  | [], _ => none
  | p :: l, i => if p.1 = k then some (i, p.2.1) else findM k l (i + 1)
def getM {κ : Type} [DecidableEq κ] (l : List (Ment κ)) (k : κ) : Option Value := (findM k l 0).map (·.2)
def putM {κ : Type} [DecidableEq κ] (l : List (Ment κ)) (k : κ) (v : Value) (clk : Nat) : List (Ment κ) :=
  match findM k l 0 with
  | some (i, _) => l.modify i fun p => (k, v, p.2.2)
  | none => l ++ [(k, v, clk)]
def clkM {κ : Type} [DecidableEq κ] (l : List (Ment κ)) (k : κ) (clk : Nat) : Nat := if (findM k l 0).isSome then clk else clk + 1
structure KeyC (P : Program) (kt : TypeId) {κ : Type} [DecidableEq κ] (enc : κ → Value) : Prop where
  chk : ∀ b k w, (Instr.checkKey b 10000 kt (enc k)).run P w = .ok () w
  find : ∀ k l w, (Instr.findKey kt (enc k) (l.map (entOf enc))).run P w = .ok (findM k l 0) w
  stays : ∀ k w, (Instr.keyThatStays (enc k) (enc k)).run P w = .ok (enc k) w
theorem vG (k : Int) : ∀ (l : List (Ment Int)) (i : Nat), Instr.findNow (.int .i64) (int k) (l.map (entOf int)) i = some (findM k l i)
  | [], i => rfl
  | p :: l, i => by
    rw [List.map_cons, Instr.findNow]; simp only [Instr.sameNow, entOf, findM]
    by_cases h : p.1 = k
    · simp [h]
    have h' : ¬ k = p.1 := fun e => h e.symm; simp only [if_true, h, if_false, beq_eq_false_iff_ne.2 h']; exact vG k l (i + 1)
theorem vF (k : Str) : ∀ (l : List (Ment Str)) (i : Nat), Instr.findNow .string (str k) (l.map (entOf str)) i = some (findM k l i)
  | [], i => rfl
  | p :: l, i => by
    rw [List.map_cons, Instr.findNow]; simp only [str, Instr.sameNow, entOf, findM]
    have hb : ((ByteArray.mk k.toArray) == ByteArray.mk p.1.toArray) = decide (p.1 = k) := by
      rw [Bool.eq_iff_iff, MapKept.bytes_beq, decide_eq_true_iff]
      constructor
      · intro e
        injection e with e
        have := congrArg Array.toList e
        simpa using this.symm
      intro e; rw [e]
    rw [hb]
    by_cases h : p.1 = k
    · simp [h]
    simp only [h, decide_false, if_false]; exact vF k l (i + 1)
theorem KeyC.int {P : Program} {kt : TypeId} (h : P.underlying kt = some (.int .i64)) : KeyC P kt W.int where
  chk b k w := MapKept.run_checkKey h (by simp [MapKept.IsKey]) b 9999
  find k l w := MapKept.run_findKey h (vG k l 0)
  stays k w := MapKept.run_keyThatStays (d := .int .i64) (by simp [MapKept.IsKey])
theorem KeyC.str {P : Program} {kt : TypeId} (h : P.underlying kt = some .string) : KeyC P kt W.str where
  chk b k w := MapKept.run_checkKey h (by simp [MapKept.IsKey, W.str]) b 9999
  find k l w := MapKept.run_findKey h (vF k l 0)
  stays k w := MapKept.run_keyThatStays (d := .string) (by simp [MapKept.IsKey, W.str])
def pair (p : Int × Int) : Value := .agg #[W.int p.1, W.int p.2]
theorem gV {P : Program} {e : TypeId} (he : P.underlying e = some (.int .i64)) (cs : Array Value) (i : Nat) (v : Value) (hv : cs[i]? = some v) (w : World) : (part e cs i).run P w = .ok v w := by
  have hagg : (isAgg e).run P w = .ok false w := by
    unfold isAgg; rw [Sem.run_bind, run_underlying he w]
    rfl
  simp [part, Sem.run_bind, hagg, hv]
theorem hx6 {P : Program} {e : TypeId} (he : P.underlying e = some (.int .i64)) (d : Nat) (a b : Int) (w : World) : (Op.equalIn (d + 1) e (W.int a) (W.int b)).run P w = .ok (a == b) w := by
  simp [Op.equalIn, run_underlying he]
theorem eq_pair {P : Program} {kt e : TypeId} (h : P.underlying kt = some (.array 2 e)) (he : P.underlying e = some (.int .i64)) (hz : Sz P e 1) (p q : Int × Int) (w : World) : (Op.equal kt (pair p) (pair q)).run P w = .ok (decide (p = q)) w := by
  have hs := N7 hz w
  have key : ∀ d, (Op.equalIn (d + 2) kt (pair p) (pair q)).run P w = .ok (decide (p = q)) w := by
    intro d; obtain ⟨a, b⟩ := p; obtain ⟨a', b'⟩ := q; have p0 := gV he #[W.int a, W.int b] 0 (W.int a) rfl w; have p1 := gV he #[W.int a, W.int b] 1 (W.int b) rfl w; have q0 := gV he #[W.int a', W.int b'] 0 (W.int a') rfl w; have q1 := gV he #[W.int a', W.int b'] 1 (W.int b') rfl w; unfold Op.equalIn; simp only [Sem.run_bind, run_underlying h, pair, hs, Result.andThen_ok, Std.Legacy.Range.forIn_eq_forIn_range', Std.Legacy.Range.size, Nat.sub_zero, Nat.reduceAdd, Nat.reduceSub, Nat.reduceDiv, List.range', List.forIn_cons, List.forIn_nil, Nat.zero_mul, Nat.mul_one, Nat.zero_add, p0, p1, q0, q1, hx6 he d]
    by_cases h1 : a = a'
    · subst h1
      by_cases h2 : b = b'
      · subst h2; simp [p1, hx6 he d]
      simp [h2, p1, q1, hx6 he d]
    simp [h1]
  exact key 9998
theorem yI {P : Program} {kt e : TypeId} (h : P.underlying kt = some (.array 2 e)) (he : P.underlying e = some (.int .i64)) (hz : Sz P e 1) (k : Int × Int) (w : World) : ∀ (l : List (Ment (Int × Int))) (i : Nat), (Instr.findAsking kt (pair k) (l.map (entOf pair)) i).run P w = .ok (findM k l i) w
  | [], i => rfl
  | p :: l, i => by
    rw [List.map_cons, Instr.findAsking]; simp only [Sem.run_bind, entOf, eq_pair h he hz, Result.andThen_ok, findM]
    by_cases hk : p.1 = k
    · simp [hk]
    have h' : ¬ k = p.1 := fun e => hk e.symm; simp only [hk, h', decide_false, Bool.false_eq_true, if_false]; exact yI h he hz k w l (i + 1)
theorem KeyC.pair {P : Program} {kt e : TypeId} (h : P.underlying kt = some (.array 2 e)) (he : P.underlying e = some (.int .i64)) (hz : Sz P e 1) : KeyC P kt W.pair where
  chk b k w := by
    have hs := N7 hz w; have p0 := gV he #[W.int k.1, W.int k.2] 0 (W.int k.1) rfl w; have p1 := gV he #[W.int k.1, W.int k.2] 1 (W.int k.2) rfl w; have c : ∀ (n : Int), (Instr.checkKey b 9999 e (W.int n)).run P w = .ok () w := fun n => MapKept.run_checkKey he (by simp [MapKept.IsKey]) b 9998; unfold Instr.checkKey
    simp [run_underlying h, W.pair, hs, Std.Legacy.Range.forIn_eq_forIn_range', List.range', p0, p1, c]
  find k l w := by
    unfold Instr.findKey; simp only [Sem.run_bind, run_underlying h, Result.andThen_ok]
    have : Instr.findNow (.array 2 e) (W.pair k) (l.map (entOf W.pair)) 0 = none ∨ (l = [] ∧ Instr.findNow (.array 2 e) (W.pair k) (l.map (entOf W.pair)) 0 = some none) := by
      cases l with
      | nil => exact .inr ⟨rfl, rfl⟩
      | cons p l => exact .inl rfl
    rcases this with h1 | ⟨rfl, h1⟩
    · rw [h1]
      exact yI h he hz k w l 0
    rw [h1]; rfl
  stays k w := by
    obtain ⟨a, b⟩ := k
    have : Instr.sameBits 10000 (W.pair (a, b)) (W.pair (a, b)) = true := by
      simp [Instr.sameBits, W.pair]
    unfold Instr.keyThatStays; rw [if_pos this]
    rfl
/-! ### Cuts aS9 facts; perms -/
theorem U7 {α : Type} {l l' : List α} (h : ∀ p : α → Bool, l.countP p = l'.countP p) : l.Perm l' := by
  classical
  refine List.perm_iff_count.2 fun a => ?_
  simpa [List.count] using h (· == a)
section
variable {c : Cx} {Q : Exit → Act → World → Prop} {fr : Fr} {hp : Hp} {L : List Fact} {ops : Array Oper} {rest : List Oper}
theorem az3 {e : TypeId} {sz n cap : Nat} {A : Option Addr} {xs : List Value} {og : Hp} {x : Exit} (hG : Grow e sz A n cap xs og) (k : HQ c Q x fr [] (Row A xs :: L)) : HQ c Q x fr og L := fun a w ha hw => k a w ha (rJ hG (by simpa using hw))
end
/-! ### The rules -/
def MapAt (b : Bx) (hp : Hp) (L : List Fact) (g : Nat) (o : Obj) : Prop := ∀ w, WI b w hp L → w.heap[g]? = some o
section
variable {κ : Type} [DecidableEq κ] {enc : κ → Value} {kt e : TypeId}
theorem ix0 {b : Bx} {hp : Hp} {L : List Fact} {g : Nat} {o : Obj} (h : (g, o) ∈ hp) : MapAt b hp L g o := fun w hw => hw.own _ h
variable {c : Cx} {Q : Exit → Act → World → Prop} {fr : Fr} {hp : Hp} {L : List Fact} {ops : Array Oper} {rest : List Oper}
variable {d : Tmp} {ty : TypeId} {pos : String} {af : Array Edge}
theorem yH {k : κ} : ∀ (l : List (Ment κ)) (i j : Nat) (v : Value), findM k l i = some (j, v) → ∃ m p, j = i + m ∧ l[m]? = some p ∧ p.1 = k ∧ p.2.1 = v
  | [], i, j, v, h => by simp [findM] at h
  | p :: l, i, j, v, h => by
    rw [findM] at h
    split at h
    · rename_i e
      simp only [Option.some.injEq, Prod.mk.injEq] at h; exact ⟨0, p, by omega, rfl, e, h.2⟩
    obtain ⟨m, q, h1, h2, h3⟩ := yH l (i + 1) j v h; exact ⟨m + 1, q, by omega, by simpa using h2, h3⟩
omit [DecidableEq κ] in
theorem xU {l : List (Ment κ)} {i : Nat} {k : κ} {v : Value} {p : Ment κ} (hp : l[i]? = some p) :
    ((l.map (entOf enc)).toArray.modify i fun x => { x with key := enc k, val := v }) = ((l.modify i fun p => (k, v, p.2.2)).map (entOf enc)).toArray := by
  apply Array.ext'
  simp only [Array.toList_modify]
  apply List.ext_getElem?
  intro n; simp only [List.getElem?_modify, List.getElem?_map]
  split
  · cases hl : l[n]? <;> simp [entOf]
  simp
theorem lq6 {t : TypeId} {x y z : Operand} {g : Nat} {l : List (Ment κ)} {clk : Nat} {k : κ} {v : Value} {hp' : Hp} {o : Op} (K : KeyC c.P kt enc) (ho : o = .mapUpdate t x y z ∨ o = .insert t x y z) (ht : c.P.underlying t = some (.map kt e)) (hx : ev fr x = some (.map (some g))) (hy : ev fr y = some (enc k)) (hz : ev fr z = some v)
    (hpp : hp.Perm ((g, mapO enc l clk) :: hp')) (kk : HL c ops Q rest fr ((g, mapO enc (putM l k v clk) (clkM l k clk)) :: hp') L) : HL c ops Q (⟨none, o, ty, pos, af, none⟩ :: rest) fr hp L :=
  wU (hok := by rcases ho with rfl | rfl <;> rfl) rfl rfl fun a w ha hw => by
    have hw' := hw.perm hpp; have hg := hw'.own (g, mapO enc l clk) (by simp); have hg' : w.heap[g]? = some (.map (l.map (entOf enc)).toArray clk) := hg; have hf := K.find k l w
    have hrun : (Instr.mapUpdate t (.map (some g)) (enc k) v).run c.P w = .ok () { w with heap := w.heap.setIfInBounds g (mapO enc (putM l k v clk) (clkM l k clk)) } := by
      unfold putM clkM
      cases hr : findM k l 0 with
      | none =>
        rw [hr] at hf; simp only [Instr.mapUpdate, Sem.run_bind, run_underlying ht, Result.andThen_ok, MapKept.run_getObj_map hg', K.chk, hf, MapKept.run_setObj_map _ hg']
        have : ((l.map (entOf enc)).toArray.push { key := enc k, val := v, born := clk }) = ((l ++ [(k, v, clk)]).map (entOf enc)).toArray := by
          apply Array.ext'; simp [entOf]
        rw [this]
        rfl
      | some p =>
        obtain ⟨i, u⟩ := p; rw [hr] at hf; obtain ⟨m, q, h1, h2, h3, h4⟩ := yH l 0 i u hr; have e1 : i = m := by omega
        subst e1
        have e2 : (((l.map (entOf enc)).toArray[i]?).map (·.key)).getD (enc k) = enc k := by
          simp [h2, entOf, h3]
        simp only [Instr.mapUpdate, Sem.run_bind, run_underlying ht, Result.andThen_ok, MapKept.run_getObj_map hg', K.chk, hf, e2, K.stays, MapKept.run_setObj_map _ hg', xU h2]
        rfl
    refine ⟨{ w with heap := w.heap.setIfInBounds g (mapO enc (putM l k v clk) (clkM l k clk)) }, _, L, ?_, hw'.write (o' := mapO enc (putM l k v clk) (clkM l k clk)) ⟨rfl, rfl, rfl, by simp, fun j hj hn => by simp only [List.mem_singleton] at hn; simp [Array.getElem?_setIfInBounds_ne (Ne.symm hn)], Nat.le_refl _⟩ ?_, kk⟩
    · rcases ho with rfl | rfl <;> simp only [execOp, ha.ev hx, ha.ev hy, ha.ev hz, Sem.run_bind, hrun, Result.andThen_ok, Sem.run_pure]
    have := C0 hg; simp only at this
    simp [this]
omit [DecidableEq κ] in
theorem gz6 (enc : κ → Value) {t : TypeId} (hd : Nat.blt d c.n = true) (k : ∀ g, HL c ops Q rest ((d, .map (some g)) :: fr) ((g, mapO enc [] 0) :: hp) L) : HL c ops Q (⟨some d, .makeMap t none, ty, pos, af, none⟩ :: rest) fr hp L :=
  jj8 hd k
theorem qL {k : κ} : ∀ (l : List (Ment κ)) (i : Nat), findM k l (i + 1) = (findM k l i).map fun p => (p.1 + 1, p.2)
  | [], i => rfl
  | p :: l, i => by
    simp only [findM]
    split
    · rfl
    exact qL l (i + 1)
theorem jz7 (p : Ment κ) (l : List (Ment κ)) (k : κ) : getM (p :: l) k = if p.1 = k then some p.2.1 else getM l k := by
  unfold getM; simp only [findM]
  split
  · rfl
  rw [qL]; cases findM k l 0 <;> rfl
end
end Go.W
end
section
namespace Go.W
open Go Go.RowKit
section
variable {c : Cx} {fr : Fr} {hp : Hp} {L : List Fact}
theorem rV {β : Type} {k : Con β} {fn : Func} {w0 : World} (x : β) {t : Tmp} {ty e : TypeId} {g n : Nat} {cs : Array Value} {fz : Nat × Nat} (hres : fn.results = #[.cell t ty]) (hv : lk fr t = some (.pointer (b4 g))) (ht : IsR c.P ty) (hz : Sz c.P ty n) (hn : cs.size = n)
    (hm : (g, Obj.cells cs e fz) ∈ hp) (hk : k.val x = .agg cs) (hb : c.b = k.entry w0) (hi : k.inv x) (h2 : (k.hpO x).Sublist hp) (h3 : LSub L (k.LO x)) (hD : c.D = [] := by rfl) : HQ c (postB c.P fn (k.post w0)) .ret fr hp L :=
  rU x (fun a w ha hw => by
    obtain ⟨dd, ht, hr⟩ := ht; have h1 := hw.own _ hm; simp only at h1
    have hl : (loadVar ty ⟨g, 0, none⟩).run c.P w = .ok (.agg cs) w := by
      have hagg : (isAgg ty).run c.P w = .ok true w := by
        unfold isAgg; rw [Sem.run_bind, run_underlying ht w]
        cases dd <;> simp_all [TypeDesc.isRow]
      have hc := run_loadCells_list (P := c.P) w ⟨g, 0, none⟩ cs.toList (fun j u hu => by rw [Y1, Nat.zero_add]; simp at hu; simp [World.cell?, h1, hu]); have hs := N7 hz w; simp only [loadVar, Sem.run_bind, hagg, Result.andThen_ok, if_true, hs, ← hn]; have e : cs.size = cs.toList.length := by simp
      rw [e, hc]
      simp
    have hv' := ha.at_ _ _ hv; rw [hk]; unfold results; rw [hres]; have hv2 : a.tmps[t]?.getD undef = .pointer (b4 g) := by simpa using hv'
    simp [hv2, asAddr, hl]) hb hi h2 h3 hD
end
section
variable {c : Cx} {Q : Exit → Act → World → Prop} {fr : Fr} {hp : Hp} {L : List Fact} {ops : Array Oper} {rest : List Oper}
variable {d : Tmp} {ty : TypeId} {pos : String} {af : Array Edge}
theorem t7 {t e : TypeId} {x : Operand} {g : Nat} {cs : Array Value} {fz : Nat × Nat} {n : Nat} (hd : Nat.blt d c.n = true) (ht' : IsR c.P t) (hz' : Sz c.P t n) (hx : ev fr x = some (.pointer (b4 g))) (h : Blk g (Obj.cells cs e fz) ∈ L) (hn : cs.size = n)
    (k : HL c ops Q rest ((d, .agg cs) :: fr) hp L) : HL c ops Q (⟨some d, .load t x, ty, pos, af, none⟩ :: rest) fr hp L :=
  r8 (cs := cs.toList) hd ht' hz' hx (by simpa using hn) (nD h (fun i u hu => by simpa using hu)) k
theorem zK {t e : TypeId} {x y : Operand} {sz bytes n m cp : Nat} {A B : Option Addr} {olds news : List Value} (n' : Nat) (xs' : List Value) (el : ElT c.P t e sz bytes) (hd : Nat.blt d c.n = true)
    (hx : ev fr x = some (.slice A n n)) (hy : ev fr y = some (.slice B m cp)) (hA : Row A olds ∈ L) (hlo : olds.length = n * sz) (hs : Src c.b hp L B m sz news) (hn' : n + m = n') (hxs : olds ++ news = xs') (hn : n' ≤ maxLen) (hby : n' * bytes ≤ 140737488355328)
    (k : ∀ A' cap', n' ≤ cap' → HL c ops Q rest ((d, .slice A' n' cap') :: fr) hp (Row A' xs' :: L)) :
    HL c ops Q (⟨some d, .call ⟨.builtin .append, #[x, y], #[t, t]⟩, ty, pos, af, none⟩ :: rest) fr hp L :=
  lW rfl rfl hd fun a w ha hw => by
    subst hn'; subst hxs; obtain ⟨i, z, hi, hz, hsz, hb, hzs⟩ := el.i; have hrow := hw.fs _ hA
    have hgs : Go.Src c.P i.size t (.slice B m cp) m news w := by
      rcases hs.2.2 with ⟨rfl, rfl⟩ | h
      · have : news = [] := List.eq_nil_of_length_eq_zero (by simpa using hs.1)
        subst this; exact Go.Src.ofNil w el.u cp
      obtain ⟨ad, rfl, hc⟩ := h w hw; exact Go.Src.ofSlice w el.u ad m cp news (by rw [hsz]; exact hs.1) hc hs.2.1
    by_cases hm : m = 0
    · subst hm
      have : news = [] := List.eq_nil_of_length_eq_zero (by simpa using hs.1); subst this; refine ⟨.slice A n n, w, hp, Row A (olds ++ []) :: L, ?_, hw.weak (.refl _) ?_ |>.add (by simpa using hrow) (fun p hp => by simpa using hw.ap _ hA p hp) (fun k hk => hw.al _ hA k (by simpa using hk)), k A n (Nat.le_refl _)⟩
      · have := run_append_nothing w t t ty e i el.u hi A n n (Nat.le_refl _) (.slice B 0 cp) hgs
        simp only [execOp, resolve, invoke, builtin, Sem.run_bind, Sem.run_pure, Result.andThen_ok, List.map_toArray, List.map_cons, List.map_nil, ha.ev hx, ha.ev hy, this]
      exact fun _ h => h
    have hold : (Builtin.firstCells i.size n (.slice A n n)).run c.P w.drew = .ok olds.toArray w.drew := by
      cases A with
      | none =>
        have : olds = [] := by
          cases olds with
          | nil => rfl
          | cons u r => obtain ⟨ad, e, _⟩ := hrow 0 u rfl; cases e
        subst this
        have hn0 : n = 0 := by
          have := el.pos; simp only [List.length_nil] at hlo
          rcases Nat.eq_zero_or_pos n with h | h
          · exact h
          have := Nat.mul_pos h this; omega
        subst hn0; exact run_firstCells_none _ _ _ _ _
      | some ad => exact run_firstCells_some _ _ _ _ _ _ olds (by rw [hsz]; exact hlo) (fun j u hu => by
          obtain ⟨ad', e, hc⟩ := hrow j u hu
          cases e
          simpa using hc)
    have hrun := run_append_grow_src w t t ty e i z el.u hi hz A n n olds hold (.slice B m cp) m news hgs (by omega) (by unfold maxLen at hn; omega) (growslice_fits (by omega) (by rw [hb]; exact hby)); have h2 := (hw.quiet (gj4 w)).alloc (.cells ((olds ++ news).toArray ++ Builtin.zeroCells z.cells (grownCap w (n + m) n e - (n + m))) e (0, 0)); refine ⟨_, w.drew.alloc (.cells ((olds ++ news).toArray ++ Builtin.zeroCells z.cells (grownCap w (n + m) n e - (n + m))) e), hp, Row (some ⟨w.heap.size, 0, none⟩) (olds ++ news) :: L, ?_, kR h2 ?_, k (some ⟨w.heap.size, 0, none⟩) (grownCap w (n + m) n e) (grownCap_ge w (n + m) n e)⟩
    · simp only [execOp, resolve, invoke, builtin, Sem.run_bind, Sem.run_pure, Result.andThen_ok, List.map_toArray, List.map_cons, List.map_nil, ha.ev hx, ha.ev hy, hrun]
    exact ⟨(Builtin.zeroCells z.cells (grownCap w (n + m) n e - (n + m))).toList, by simp⟩
end
section
variable {κ : Type} [DecidableEq κ] {enc : κ → Value} {kt e : TypeId}
variable {c : Cx} {Q : Exit → Act → World → Prop} {fr : Fr} {hp : Hp} {L : List Fact} {ops : Array Oper} {rest : List Oper}
variable {d : Tmp} {ty : TypeId} {pos : String} {af : Array Edge}
theorem mq3 {l : List (Ment κ)} {k : κ} {v : Value} (h : getM l k = some v) : ∃ p ∈ l, p.1 = k ∧ p.2.1 = v := by
  unfold getM at h
  cases hf : findM k l 0 with
  | none => rw [hf] at h; cases h
  | some q =>
    obtain ⟨i, u⟩ := q; rw [hf] at h; simp only [Option.map_some, Option.some.injEq] at h; subst h; obtain ⟨m, p, _, h2, h3, h4⟩ := yH l 0 i u hf; exact ⟨p, List.mem_of_getElem? h2, h3, h4⟩
end
theorem bx7 {α : Type} {l' : List α} : ∀ {l : List α}, (∀ p : α → Bool, l'.countP p ≤ l.countP p) → ∃ r, l.Perm (l' ++ r) := by
  classical
  induction l' with
  | nil => intro l _; exact ⟨l, .refl _⟩
  | cons a t ih =>
    intro l h; have h1 := h (fun x => decide (x = a)); rw [List.countP_cons_of_pos (by simp)] at h1
    have ha : a ∈ l := by
      have : 0 < l.countP (fun x => decide (x = a)) := by omega
      obtain ⟨x, hx, e⟩ := List.countP_pos_iff.1 this
      simp at e
      exact e ▸ hx
    have hp := List.perm_cons_erase ha
    obtain ⟨r, hr⟩ := ih (l := l.erase a) (fun p => by
      have h2 := h p; have h3 := hp.countP_eq p; rw [List.countP_cons] at h2 h3
      omega)
    exact ⟨r, hp.trans (hr.cons a)⟩
theorem WI.count {b : Bx} {w : World} {hp hp' : Hp} {L L' : List Fact} (h : WI b w hp L) (hc : ∀ p : Nat × Obj → Bool, hp'.countP p ≤ hp.countP p) (h2 : ∀ F ∈ L', F ∈ L) : WI b w hp' L' := by
  obtain ⟨r, hr⟩ := bx7 hc; exact (h.perm hr).weak (List.sublist_append_left _ _) h2
section
variable {c : Cx} {Q : Exit → Act → World → Prop} {fr : Fr} {hp : Hp} {L : List Fact} {ops : Array Oper} {rest : List Oper}
end
section
variable {c : Cx} {Q : Exit → Act → World → Prop} {fr : Fr} {hp : Hp} {L : List Fact} {ops : Array Oper} {rest : List Oper}
theorem tM {b : Bx} {w : World} {g : Nat} {o : Obj} (h : WI b w ((g, o) :: hp) L) : WI b w hp (Blk g o :: L) := h.letgo (h.own (g, o) (by simp)) (fun k hk => hk)
theorem X3 {g : Nat} {o : Obj} {x : Code} (k : HC c x Q fr hp (Blk g o :: L)) : HC c x Q fr ((g, o) :: hp) L := fun a w ha hw => k a w ha (tM hw)
theorem az5 {g : Nat} {o : Obj} (k : HL c ops Q rest fr hp (Blk g o :: L)) : HL c ops Q rest fr ((g, o) :: hp) L := fun a w ha hw => k a w ha (tM hw)
end
def Facts (Fs : List Fact) : Fact where
  P w := ∀ F ∈ Fs, F.P w
  fp k := ∃ F ∈ Fs, F.fp k
  st w w' h hP F hF := F.st w w' (fun k hk => h k ⟨F, hF, hk⟩) (hP F hF)
  lt w hP k hk := by obtain ⟨F, hF, hk⟩ := hk; exact F.lt w (hP F hF) k hk
section
variable {c : Cx} {Q : Exit → Act → World → Prop} {fr : Fr} {hp : Hp} {L : List Fact} {ops : Array Oper} {rest : List Oper}
theorem ij3 {b : Bx} {w : World} {Fs : List Fact} {F : Fact} (h : Facts Fs ∈ L) (hF : F ∈ Fs) (hw : WI b w hp L) : WI b w hp (F :: L) := aR hw (hw.fs _ h F hF) (fun k hk => ⟨_, h, F, hF, hk⟩)
theorem wV {Fs : List Fact} {F : Fact} (h : Facts Fs ∈ L) (hF : F ∈ Fs) (k : HL c ops Q rest fr hp (F :: L)) : HL c ops Q rest fr hp L := fun a w ha hw => k a w ha (ij3 h hF hw)
theorem hc_pick {Fs : List Fact} {F : Fact} {x : Code} (h : Facts Fs ∈ L) (hF : F ∈ Fs) (k : HC c x Q fr hp (F :: L)) : HC c x Q fr hp L := fun a w ha hw => k a w ha (ij3 h hF hw)
theorem wZ {b : Bx} {w : World} {Fs : List Fact} (h : ∀ F ∈ Fs, F ∈ L ∨ ∃ Gs, Facts Gs ∈ L ∧ F ∈ Gs) (hw : WI b w hp L) : WI b w hp (Facts Fs :: L) :=
  aR hw (fun F hF => by
    rcases h F hF with h1 | ⟨Gs, h1, h2⟩
    · exact hw.fs _ h1
    · exact hw.fs _ h1 F h2) (fun k hk => by
    obtain ⟨F, hF, hk⟩ := hk
    rcases h F hF with h1 | ⟨Gs, h1, h2⟩
    · exact ⟨F, h1, hk⟩
    exact ⟨_, h1, F, h2, hk⟩)
theorem mj3 {Fs : List Fact} (h : ∀ F ∈ Fs, F ∈ L ∨ ∃ Gs, Facts Gs ∈ L ∧ F ∈ Gs) (k : HL c ops Q rest fr hp (Facts Fs :: L)) : HL c ops Q rest fr hp L := fun a w ha hw => k a w ha (wZ h hw)
theorem dz5 {Fs : List Fact} {x : Code} (h : ∀ F ∈ Fs, F ∈ L ∨ ∃ Gs, Facts Gs ∈ L ∧ F ∈ Gs) (k : HC c x Q fr hp (Facts Fs :: L)) : HC c x Q fr hp L := fun a w ha hw => k a w ha (wZ h hw)
theorem xZ {Fs : List Fact} {x : Exit} (h : ∀ F ∈ Fs, F ∈ L ∨ ∃ Gs, Facts Gs ∈ L ∧ F ∈ Gs) (k : HQ c Q x fr hp (Facts Fs :: L)) : HQ c Q x fr hp L := fun a w ha hw => k a w ha (wZ h hw)
end
section
variable {c : Cx} {Q : Exit → Act → World → Prop} {fr : Fr} {hp : Hp} {L : List Fact} {ops : Array Oper} {rest : List Oper}
theorem A8 {e : Exit} {α : Type} [El α] (k : HQ c Q e fr hp (Row none (rows ([] : List α)) :: L)) : HQ c Q e fr hp L := hq_more (F := Row none (rows ([] : List α))) (fun w _ => Row.nil _ w) (fun k hk => by obtain ⟨_, e, _⟩ := hk; cases e) k
theorem gY {α : Type} [El α] (k : HL c ops Q rest fr hp (Row none (rows ([] : List α)) :: L)) : HL c ops Q rest fr hp L := hl_more (F := Row none (rows ([] : List α))) (fun w _ => Row.nil _ w) (fun k hk => by obtain ⟨_, e, _⟩ := hk; cases e) k
end
end Go.W
end
section
namespace Go.Proofs.YtmpfpfbcejfijaaGreatDoor
open Go Go.W
set_option maxRecDepth 20000
attribute [local irreducible] HL HC HQ HB Row Rows2 Blk Facts
theorem L3 {α : Type} [Inhabited α] (l : List α) (k : Nat) (h : k < l.length) : l.take (k + 1) = l.take k ++ [l.getD k default] := by
  rw [List.take_succ_eq_append_getElem h]
  simp [List.getD_eq_getElem?_getD, h]
theorem gj6 {α : Type} {a b : List α} {k : Nat} (h : a.take k = b.take k) (ha : a.length ≤ k) (hb : b.length ≤ k) : a = b := by
  rwa [List.take_of_length_le ha, List.take_of_length_le hb] at h
theorem ne_at {α : Type} [Inhabited α] {a b : List α} {k : Nat} (h : ¬ a.getD k default = b.getD k default) : ¬ a = b := fun e => h (by rw [e])
theorem X0 {A B : Option Addr} {ca cb : Nat} (a b : List Int) (ha : a.length ≤ 9223372036854775806) :
    Meets Tryz.prog F.X1 [.slice A a.length ca, .slice B b.length cb] { LI := [Row A (rows a), Row B (rows b)], val := fun _ : Unit => .bool (decide (a = b)) } := by
 refine j8 F.cj6 rfl t4 fun w0 => ?_; refine j3 (b9 rfl (d9 (j6 (j3 (b8 rfl ?_))))); refine l9 rfl T.q9 rfl (b8 rfl (l9 rfl T.q9 rfl ?_)); refine C1 rfl rfl rfl (d9 ?_)
 first | refine m7 rfl (fun hb1 => ?_) (fun hb1 => ?_) | refine k4 rfl (fun hb1 => ?_) (fun hb1 => ?_)
 ·have hb1' := hb1; try simp at hb1'
  have hb1 : ¬ a = b := fun e => by subst e; exact hb1 rfl
  refine j3 (b9 rfl (d9 (J1 ?_))); exact ret1 () rfl (by rw [decide_eq_false hb1]; rfl) rfl trivial (.refl _) trivial
 have hb1' := hb1; try simp at hb1'
 have hb1 : a.length = b.length := by omega
 refine k7 (j9 (j6 (j3 (b9 rfl (d9 (l4 ?_)))))); refine v8 (β := Nat) ⟨fun k => k ≤ a.length ∧ a.take k = b.take k, fun k => [(0, .slice A a.length ca), (1, .slice B b.length cb), (5, int k)], fun _ => [], fun _ => [Row A (rows a), Row B (rows b)]⟩ (fun k => a.length - k) 0 ⟨Nat.zero_le _, rfl⟩ mC (.refl _) ⟨m0, m1, trivial⟩ fun k hk => ?_; obtain ⟨hk, ht⟩ := hk; refine j6 (j3 (b8 rfl (b8 rfl ?_))); refine l9 rfl T.q9 rfl ?_; refine A7 rfl rfl rfl (d9 ?_)
 first | refine m7 rfl (fun hb2 => ?_) (fun hb2 => ?_) | refine k4 rfl (fun hb2 => ?_) (fun hb2 => ?_)
 ·have hb2' := hb2; try simp at hb2'
  have hb2 : k < a.length := by omega
  refine k7 (j9 (j6 (l4 (j6 ?_)))); refine G8 8 mixed (by decide) (by decide) rfl rfl (s7 (fun w1 => b8 rfl (q_z rfl)) (s7 (fun w1 => b8 rfl (q_z rfl)) (s7 (fun w1 => w3 (α := Int) _ _ rfl T.q9 T.v0 rfl rfl rfl mB rfl (by omega) (by decide) (q_z rfl)) (s7 (fun w1 => a8 rfl T.a9 rfl (d8 mB (d4 (by omega) rfl)) (q_z rfl)) (s7 (fun w1 => b8 rfl (q_z rfl)) (s7 (fun w1 => b8 rfl (q_z rfl)) (s7 (fun w1 => w3 (α := Int) _ _ rfl T.q9 T.v0 rfl rfl rfl mB rfl (by omega) (by decide) (q_z rfl)) ?_))))))); refine s7 (fun w1 => a8 rfl T.a9 rfl (d8 mB (d4 (by omega) rfl)) (q_z rfl)) ?_; refine D4 ⟨rfl, ?_⟩; refine C1 rfl rfl rfl (d9 ?_)
  first | refine m7 rfl (fun hb3 => ?_) (fun hb3 => ?_) | refine k4 rfl (fun hb3 => ?_) (fun hb3 => ?_)
  ·have hb3' := hb3; try simp at hb3'
   have hb3 : ¬ a = b := ne_at (a := a) (b := b) (k := k) hb3; refine j3 (b9 rfl (d9 (l7 (C2 (w6 (C2 ?_)))))); exact ret1 () rfl (by rw [decide_eq_false hb3]; rfl) rfl trivial (.refl _) trivial
  have hb3' := hb3; try simp at hb3'
  have hb3 : a.getD k default = b.getD k default := Classical.not_not.1 hb3; refine k7 (z2 (j9 (k8 (b8 rfl ?_)))); refine y2 _ rfl rfl rfl rfl s9 ?_; refine b9 rfl (d6 ?_); exact again _ (k + 1) ⟨by omega, by rw [L3 a k hb2, L3 b k (by omega), ht, hb3]⟩ (by first | omega | (simp only; omega)) mC (.refl _) ⟨m0, m1, trivial⟩
 have hb2' := hb2; try simp at hb2'
 have hb2 : k = a.length := by omega
 refine v5 (C3 (u9 (j9 (j3 (b9 rfl (d9 (l7 ?_))))))); exact ret1 () rfl (by rw [decide_eq_true (gj6 ht (by omega) (by omega))]; rfl) rfl trivial (.refl _) trivial
abbrev OutC := Option Addr × Nat
def outSl {α : Type} [El α] (l : List α) : Con OutC := { inv := fun x => l.length ≤ x.2, val := fun x => .slice x.1 l.length x.2, LO := fun x => [Row x.1 (rows l)] }
end Go.Proofs.YtmpfpfbcejfijaaGreatDoor
end
