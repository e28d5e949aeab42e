/- Texts of this claim, one behind another. -/
import Derived.Test.YtegfgegnhjkcfaaGreatDoorProg
import Derived.KernelRfl
import Derived.Laws.StructEq
import Derived.Laws.IdiomStrings
import Derived.MapKept
import Derived.Test.YtegfgegnhjkcfaaGreatDoorAAc
set_option linter.unusedVariables false
set_option linter.unusedSimpArgs false
section
namespace Go.Proofs.YtegfgegnhjkcfaaGreatDoor
open Go Go.W
theorem mixed : Tryz.prog.follows .mixedOrders = true := by kernel_rfl
namespace F
abbrev xS : Nat := 3
abbrev bH : Nat := 4
theorem jO : Tryz.prog.funcs[bH]? = some Tryz.f4 := Tryz.func4
abbrev law07_many : Nat := 5
abbrev N5 : Nat := 6
theorem iB : Tryz.prog.funcs[N5]? = some Tryz.f6 := Tryz.func6
theorem G9 : Callable Tryz.prog N5 := ⟨⟨_, Tryz.func6, by kernel_rfl, by kernel_rfl⟩⟩
abbrev cQ : Nat := 7
theorem qF : Tryz.prog.funcs[cQ]? = some Tryz.f7 := Tryz.func7
theorem nT : Callable Tryz.prog cQ := ⟨⟨_, Tryz.func7, by kernel_rfl, by kernel_rfl⟩⟩
abbrev cR : Nat := 8
theorem qG : Tryz.prog.funcs[cR]? = some Tryz.f8 := Tryz.func8
theorem nU : Callable Tryz.prog cR := ⟨⟨_, Tryz.func8, by kernel_rfl, by kernel_rfl⟩⟩
abbrev cM : Nat := 9
theorem pZ : Tryz.prog.funcs[cM]? = some Tryz.f9 := Tryz.func9
theorem cL : Callable Tryz.prog cM := ⟨⟨_, Tryz.func9, by kernel_rfl, by kernel_rfl⟩⟩
abbrev ref07_Write : Nat := 10
abbrev cT : Nat := 11
theorem qH : Tryz.prog.funcs[cT]? = some Tryz.f11 := Tryz.func11
theorem cS : Callable Tryz.prog cT := ⟨⟨_, Tryz.func11, by kernel_rfl, by kernel_rfl⟩⟩
abbrev kit_Smudged : Nat := 12
abbrev kit_Mod : Nat := 13
abbrev hQ : Nat := 14
theorem rY : Tryz.prog.funcs[hQ]? = some Tryz.f14 := Tryz.func14
theorem gK : Callable Tryz.prog hQ := ⟨⟨_, Tryz.func14, by kernel_rfl, by kernel_rfl⟩⟩
abbrev ref07_Read : Nat := 15
abbrev V8 : Nat := 16
theorem qE : Tryz.prog.funcs[V8]? = some Tryz.f16 := Tryz.func16
theorem cO : Callable Tryz.prog V8 := ⟨⟨_, Tryz.func16, by kernel_rfl, by kernel_rfl⟩⟩
abbrev iA : Nat := 17
theorem sK : Tryz.prog.funcs[iA]? = some Tryz.f17 := Tryz.func17
theorem W9 : Callable Tryz.prog iA := ⟨⟨_, Tryz.func17, by kernel_rfl, by kernel_rfl⟩⟩
abbrev hZ : Nat := 18
theorem sI : Tryz.prog.funcs[hZ]? = some Tryz.f18 := Tryz.func18
theorem gL : Callable Tryz.prog hZ := ⟨⟨_, Tryz.func18, by kernel_rfl, by kernel_rfl⟩⟩
abbrev aZ : Nat := 19
theorem sA : Tryz.prog.funcs[aZ]? = some Tryz.f19 := Tryz.func19
theorem qC : Callable Tryz.prog aZ := ⟨⟨_, Tryz.func19, by kernel_rfl, by kernel_rfl⟩⟩
abbrev V6 : Nat := 20
theorem qA : Tryz.prog.funcs[V6]? = some Tryz.f20 := Tryz.func20
theorem nN : Callable Tryz.prog V6 := ⟨⟨_, Tryz.func20, by kernel_rfl, by kernel_rfl⟩⟩
abbrev nS : Nat := 21
theorem vU : Tryz.prog.funcs[nS]? = some Tryz.f21 := Tryz.func21
theorem cP : Callable Tryz.prog nS := ⟨⟨_, Tryz.func21, by kernel_rfl, by kernel_rfl⟩⟩
abbrev kR : Nat := 22
theorem uJ : Tryz.prog.funcs[kR]? = some Tryz.f22 := Tryz.func22
theorem jN : Callable Tryz.prog kR := ⟨⟨_, Tryz.func22, by kernel_rfl, by kernel_rfl⟩⟩
abbrev R7 : Nat := 23
theorem nO : Tryz.prog.funcs[R7]? = some Tryz.f23 := Tryz.func23
theorem lX : Callable Tryz.prog R7 := ⟨⟨_, Tryz.func23, by kernel_rfl, by kernel_rfl⟩⟩
abbrev iC : Nat := 24
theorem sL : Tryz.prog.funcs[iC]? = some Tryz.f24 := Tryz.func24
theorem gN : Callable Tryz.prog iC := ⟨⟨_, Tryz.func24, by kernel_rfl, by kernel_rfl⟩⟩
abbrev aY : Nat := 25
theorem rZ : Tryz.prog.funcs[aY]? = some Tryz.f25 := Tryz.func25
theorem qB : Callable Tryz.prog aY := ⟨⟨_, Tryz.func25, by kernel_rfl, by kernel_rfl⟩⟩
abbrev X0 : Nat := 26
theorem lZ : Tryz.prog.funcs[X0]? = some Tryz.f26 := Tryz.func26
theorem kS : Callable Tryz.prog X0 := ⟨⟨_, Tryz.func26, by kernel_rfl, by kernel_rfl⟩⟩
abbrev iE : Nat := 27
theorem sN : Tryz.prog.funcs[iE]? = some Tryz.f27 := Tryz.func27
theorem gP : Callable Tryz.prog iE := ⟨⟨_, Tryz.func27, by kernel_rfl, by kernel_rfl⟩⟩
abbrev X2 : Nat := 28
theorem mE : Tryz.prog.funcs[X2]? = some Tryz.f28 := Tryz.func28
theorem kU : Callable Tryz.prog X2 := ⟨⟨_, Tryz.func28, by kernel_rfl, by kernel_rfl⟩⟩
abbrev iD : Nat := 29
theorem sM : Tryz.prog.funcs[iD]? = some Tryz.f29 := Tryz.func29
theorem gO : Callable Tryz.prog iD := ⟨⟨_, Tryz.func29, by kernel_rfl, by kernel_rfl⟩⟩
abbrev cU : Nat := 30
theorem qI : Tryz.prog.funcs[cU]? = some Tryz.f30 := Tryz.func30
theorem U4 : Callable Tryz.prog cU := ⟨⟨_, Tryz.func30, by kernel_rfl, by kernel_rfl⟩⟩
abbrev P5 : Nat := 31
theorem iU : Tryz.prog.funcs[P5]? = some Tryz.f31 := Tryz.func31
theorem C4 : Callable Tryz.prog P5 := ⟨⟨_, Tryz.func31, by kernel_rfl, by kernel_rfl⟩⟩
abbrev v8 : Nat := 32
theorem O5 : Tryz.prog.funcs[v8]? = some Tryz.f32 := Tryz.func32
theorem r5 : Callable Tryz.prog v8 := ⟨⟨_, Tryz.func32, by kernel_rfl, by kernel_rfl⟩⟩
abbrev aP : Nat := 33
theorem mZ : Tryz.prog.funcs[aP]? = some Tryz.f33 := Tryz.func33
theorem lP : Callable Tryz.prog aP := ⟨⟨_, Tryz.func33, by kernel_rfl, by kernel_rfl⟩⟩
abbrev v9 : Nat := 34
theorem H3 : Tryz.prog.funcs[v9]? = some Tryz.f34 := Tryz.func34
theorem G7 : Callable Tryz.prog v9 := ⟨⟨_, Tryz.func34, by kernel_rfl, by kernel_rfl⟩⟩
abbrev vL : Nat := 35
abbrev N0 : Nat := 36
theorem gX : Tryz.prog.funcs[N0]? = some Tryz.f36 := Tryz.func36
theorem dU : Callable Tryz.prog N0 := ⟨⟨_, Tryz.func36, by kernel_rfl, by kernel_rfl⟩⟩
abbrev ref07_toMark : Nat := 37
abbrev W8 : Nat := 38
theorem lW : Tryz.prog.funcs[W8]? = some Tryz.f38 := Tryz.func38
theorem Z4 : Callable Tryz.prog W8 := ⟨⟨_, Tryz.func38, by kernel_rfl, by kernel_rfl⟩⟩
abbrev hH : Nat := 39
theorem rW : Tryz.prog.funcs[hH]? = some Tryz.f39 := Tryz.func39
theorem pV : Callable Tryz.prog hH := ⟨⟨_, Tryz.func39, by kernel_rfl, by kernel_rfl⟩⟩
abbrev kQ : Nat := 40
theorem uI : Tryz.prog.funcs[kQ]? = some Tryz.f40 := Tryz.func40
theorem sJ : Callable Tryz.prog kQ := ⟨⟨_, Tryz.func40, by kernel_rfl, by kernel_rfl⟩⟩
abbrev cN : Nat := 41
theorem qD : Tryz.prog.funcs[cN]? = some Tryz.f41 := Tryz.func41
theorem B8 : Callable Tryz.prog cN := ⟨⟨_, Tryz.func41, by kernel_rfl, by kernel_rfl⟩⟩
abbrev hO : Nat := 42
theorem rX : Tryz.prog.funcs[hO]? = some Tryz.f42 := Tryz.func42
theorem gJ : Callable Tryz.prog hO := ⟨⟨_, Tryz.func42, by kernel_rfl, by kernel_rfl⟩⟩
abbrev aW : Nat := 43
theorem nI : Tryz.prog.funcs[aW]? = some Tryz.f43 := Tryz.func43
theorem lS : Callable Tryz.prog aW := ⟨⟨_, Tryz.func43, by kernel_rfl, by kernel_rfl⟩⟩
abbrev cK : Nat := 44
theorem pY : Tryz.prog.funcs[cK]? = some Tryz.f44 := Tryz.func44
theorem nM : Callable Tryz.prog cK := ⟨⟨_, Tryz.func44, by kernel_rfl, by kernel_rfl⟩⟩
abbrev R5 : Nat := 45
theorem nH : Tryz.prog.funcs[R5]? = some Tryz.f45 := Tryz.func45
theorem bF : Callable Tryz.prog R5 := ⟨⟨_, Tryz.func45, by kernel_rfl, by kernel_rfl⟩⟩
abbrev M9 : Nat := 46
theorem gW : Tryz.prog.funcs[M9]? = some Tryz.f46 := Tryz.func46
theorem Q3 : Callable Tryz.prog M9 := ⟨⟨_, Tryz.func46, by kernel_rfl, by kernel_rfl⟩⟩
abbrev E6 : Nat := 47
theorem aR : Tryz.prog.funcs[E6]? = some Tryz.f47 := Tryz.func47
theorem J3 : Callable Tryz.prog E6 := ⟨⟨_, Tryz.func47, by kernel_rfl, by kernel_rfl⟩⟩
abbrev X1 : Nat := 48
theorem mD : Tryz.prog.funcs[X1]? = some Tryz.f48 := Tryz.func48
theorem kT : Callable Tryz.prog X1 := ⟨⟨_, Tryz.func48, by kernel_rfl, by kernel_rfl⟩⟩
abbrev bB : Nat := 49
theorem nV : Tryz.prog.funcs[bB]? = some Tryz.f49 := Tryz.func49
theorem mA : Callable Tryz.prog bB := ⟨⟨_, Tryz.func49, by kernel_rfl, by kernel_rfl⟩⟩
abbrev P7 : Nat := 50
theorem iY : Tryz.prog.funcs[P7]? = some Tryz.f50 := Tryz.func50
theorem U2 : Callable Tryz.prog P7 := ⟨⟨_, Tryz.func50, by kernel_rfl, by kernel_rfl⟩⟩
abbrev r8 : Nat := 51
theorem E0 : Tryz.prog.funcs[r8]? = some Tryz.f51 := Tryz.func51
theorem P4 : Callable Tryz.prog r8 := ⟨⟨_, Tryz.func51, by kernel_rfl, by kernel_rfl⟩⟩
abbrev D8 : Nat := 52
theorem aE : Tryz.prog.funcs[D8]? = some Tryz.f52 := Tryz.func52
theorem X4 : Callable Tryz.prog D8 := ⟨⟨_, Tryz.func52, by kernel_rfl, by kernel_rfl⟩⟩
abbrev ref07_within : Nat := 53
abbrev yN : Nat := 54
abbrev C5 : Nat := 55
theorem O7 : Tryz.prog.funcs[C5]? = some Tryz.f55 := Tryz.func55
theorem y7 : Callable Tryz.prog C5 := ⟨⟨_, Tryz.func55, by kernel_rfl, by kernel_rfl⟩⟩
abbrev P6 : Nat := 56
theorem iV : Tryz.prog.funcs[P6]? = some Tryz.f56 := Tryz.func56
theorem U0 : Callable Tryz.prog P6 := ⟨⟨_, Tryz.func56, by kernel_rfl, by kernel_rfl⟩⟩
abbrev K9 : Nat := 57
theorem dT : Tryz.prog.funcs[K9]? = some Tryz.f57 := Tryz.func57
theorem cE : Callable Tryz.prog K9 := ⟨⟨_, Tryz.func57, by kernel_rfl, by kernel_rfl⟩⟩
abbrev ref07_digits : Nat := 58
abbrev N1 : Nat := 59
theorem hB : Tryz.prog.funcs[N1]? = some Tryz.f59 := Tryz.func59
theorem dV : Callable Tryz.prog N1 := ⟨⟨_, Tryz.func59, by kernel_rfl, by kernel_rfl⟩⟩
abbrev cH : Nat := 60
theorem pX : Tryz.prog.funcs[cH]? = some Tryz.f60 := Tryz.func60
theorem nL : Callable Tryz.prog cH := ⟨⟨_, Tryz.func60, by kernel_rfl, by kernel_rfl⟩⟩
abbrev R6 : Nat := 61
theorem nK : Tryz.prog.funcs[R6]? = some Tryz.f61 := Tryz.func61
theorem I3 : Callable Tryz.prog R6 := ⟨⟨_, Tryz.func61, by kernel_rfl, by kernel_rfl⟩⟩
abbrev L3 : Nat := 62
theorem dW : Tryz.prog.funcs[L3]? = some Tryz.f62 := Tryz.func62
theorem E8 : Callable Tryz.prog L3 := ⟨⟨_, Tryz.func62, by kernel_rfl, by kernel_rfl⟩⟩
abbrev cG : Nat := 63
theorem pW : Tryz.prog.funcs[cG]? = some Tryz.f63 := Tryz.func63
theorem nJ : Callable Tryz.prog cG := ⟨⟨_, Tryz.func63, by kernel_rfl, by kernel_rfl⟩⟩
abbrev t0 : Nat := 64
theorem cJ : Tryz.prog.funcs[t0]? = some Tryz.f64 := Tryz.func64
theorem bM : Callable Tryz.prog t0 := ⟨⟨_, Tryz.func64, by kernel_rfl, by kernel_rfl⟩⟩
abbrev L0 : Nat := 65
theorem kI : Tryz.prog.funcs[L0]? = some Tryz.f65 := Tryz.func65
theorem iX : Callable Tryz.prog L0 := ⟨⟨_, Tryz.func65, by kernel_rfl, by kernel_rfl⟩⟩
abbrev G5 : Nat := 66
theorem gZ : Tryz.prog.funcs[G5]? = some Tryz.f66 := Tryz.func66
theorem Q4 : Callable Tryz.prog G5 := ⟨⟨_, Tryz.func66, by kernel_rfl, by kernel_rfl⟩⟩
abbrev E7 : Nat := 67
theorem aS : Tryz.prog.funcs[E7]? = some Tryz.f67 := Tryz.func67
theorem Y9 : Callable Tryz.prog E7 := ⟨⟨_, Tryz.func67, by kernel_rfl, by kernel_rfl⟩⟩
abbrev K5 : Nat := 68
theorem dR : Tryz.prog.funcs[K5]? = some Tryz.f68 := Tryz.func68
theorem bZ : Callable Tryz.prog K5 := ⟨⟨_, Tryz.func68, by kernel_rfl, by kernel_rfl⟩⟩
abbrev K1 : Nat := 69
theorem dP : Tryz.prog.funcs[K1]? = some Tryz.f69 := Tryz.func69
theorem bW : Callable Tryz.prog K1 := ⟨⟨_, Tryz.func69, by kernel_rfl, by kernel_rfl⟩⟩
abbrev K0 : Nat := 70
theorem dO : Tryz.prog.funcs[K0]? = some Tryz.f70 := Tryz.func70
theorem bS : Callable Tryz.prog K0 := ⟨⟨_, Tryz.func70, by kernel_rfl, by kernel_rfl⟩⟩
abbrev J9 : Nat := 71
theorem dN : Tryz.prog.funcs[J9]? = some Tryz.f71 := Tryz.func71
theorem bR : Callable Tryz.prog J9 := ⟨⟨_, Tryz.func71, by kernel_rfl, by kernel_rfl⟩⟩
abbrev y4 : Nat := 73
theorem P9 : Tryz.prog.funcs[y4]? = some Tryz.f73 := Tryz.func73
theorem O9 : Callable Tryz.prog y4 := ⟨⟨_, Tryz.func73, by kernel_rfl, by kernel_rfl⟩⟩
abbrev bU : Nat := 74
theorem pT : Tryz.prog.funcs[bU]? = some Tryz.f74 := Tryz.func74
theorem bT : Callable Tryz.prog bU := ⟨⟨_, Tryz.func74, by kernel_rfl, by kernel_rfl⟩⟩
abbrev J8 : Nat := 75
theorem dM : Tryz.prog.funcs[J8]? = some Tryz.f75 := Tryz.func75
theorem bQ : Callable Tryz.prog J8 := ⟨⟨_, Tryz.func75, by kernel_rfl, by kernel_rfl⟩⟩
abbrev K8 : Nat := 76
theorem dS : Tryz.prog.funcs[K8]? = some Tryz.f76 := Tryz.func76
theorem cD : Callable Tryz.prog K8 := ⟨⟨_, Tryz.func76, by kernel_rfl, by kernel_rfl⟩⟩
abbrev H8 : Nat := 77
theorem lV : Tryz.prog.funcs[H8]? = some Tryz.f77 := Tryz.func77
theorem kM : Callable Tryz.prog H8 := ⟨⟨_, Tryz.func77, by kernel_rfl, by kernel_rfl⟩⟩
abbrev H7 : Nat := 78
theorem lU : Tryz.prog.funcs[H7]? = some Tryz.f78 := Tryz.func78
theorem kL : Callable Tryz.prog H7 := ⟨⟨_, Tryz.func78, by kernel_rfl, by kernel_rfl⟩⟩
abbrev H6 : Nat := 79
theorem lT : Tryz.prog.funcs[H6]? = some Tryz.f79 := Tryz.func79
theorem kK : Callable Tryz.prog H6 := ⟨⟨_, Tryz.func79, by kernel_rfl, by kernel_rfl⟩⟩
abbrev iJ : Nat := 80
theorem tC : Tryz.prog.funcs[iJ]? = some Tryz.f80 := Tryz.func80
theorem gR : Callable Tryz.prog iJ := ⟨⟨_, Tryz.func80, by kernel_rfl, by kernel_rfl⟩⟩
abbrev Q1 : Nat := 81
theorem jZ : Tryz.prog.funcs[Q1]? = some Tryz.f81 := Tryz.func81
theorem C8 : Callable Tryz.prog Q1 := ⟨⟨_, Tryz.func81, by kernel_rfl, by kernel_rfl⟩⟩
abbrev I7 : Nat := 82
theorem bY : Tryz.prog.funcs[I7]? = some Tryz.f82 := Tryz.func82
theorem bJ : Callable Tryz.prog I7 := ⟨⟨_, Tryz.func82, by kernel_rfl, by kernel_rfl⟩⟩
abbrev w9 : Nat := 83
theorem cI : Tryz.prog.funcs[w9]? = some Tryz.f83 := Tryz.func83
theorem bK : Callable Tryz.prog w9 := ⟨⟨_, Tryz.func83, by kernel_rfl, by kernel_rfl⟩⟩
abbrev K2 : Nat := 84
theorem dQ : Tryz.prog.funcs[K2]? = some Tryz.f84 := Tryz.func84
theorem bX : Callable Tryz.prog K2 := ⟨⟨_, Tryz.func84, by kernel_rfl, by kernel_rfl⟩⟩
abbrev u3 : Nat := 85
theorem M1 : Tryz.prog.funcs[u3]? = some Tryz.f85 := Tryz.func85
theorem J6 : Callable Tryz.prog u3 := ⟨⟨_, Tryz.func85, by kernel_rfl, by kernel_rfl⟩⟩
abbrev u1 : Nat := 86
theorem M0 : Tryz.prog.funcs[u1]? = some Tryz.f86 := Tryz.func86
theorem J5 : Callable Tryz.prog u1 := ⟨⟨_, Tryz.func86, by kernel_rfl, by kernel_rfl⟩⟩
abbrev C7 : Nat := 87
theorem X3 : Tryz.prog.funcs[C7]? = some Tryz.f87 := Tryz.func87
theorem U9 : Callable Tryz.prog C7 := ⟨⟨_, Tryz.func87, by kernel_rfl, by kernel_rfl⟩⟩
abbrev nX : Nat := 88
abbrev lJ : Nat := 89
abbrev mP : Nat := 90
abbrev B2 : Nat := 91
theorem U5 : Tryz.prog.funcs[B2]? = some Tryz.f91 := Tryz.func91
theorem R8 : Callable Tryz.prog B2 := ⟨⟨_, Tryz.func91, by kernel_rfl, by kernel_rfl⟩⟩
abbrev u0 : Nat := 92
theorem L9 : Tryz.prog.funcs[u0]? = some Tryz.f92 := Tryz.func92
theorem z3 : Callable Tryz.prog u0 := ⟨⟨_, Tryz.func92, by kernel_rfl, by kernel_rfl⟩⟩
abbrev aO : Nat := 93
theorem mY : Tryz.prog.funcs[aO]? = some Tryz.f93 := Tryz.func93
theorem bC : Callable Tryz.prog aO := ⟨⟨_, Tryz.func93, by kernel_rfl, by kernel_rfl⟩⟩
abbrev aQ : Nat := 94
theorem nA : Tryz.prog.funcs[aQ]? = some Tryz.f94 := Tryz.func94
theorem bD : Callable Tryz.prog aQ := ⟨⟨_, Tryz.func94, by kernel_rfl, by kernel_rfl⟩⟩
abbrev X8 : Nat := 95
theorem mJ : Tryz.prog.funcs[X8]? = some Tryz.f95 := Tryz.func95
theorem aH : Callable Tryz.prog X8 := ⟨⟨_, Tryz.func95, by kernel_rfl, by kernel_rfl⟩⟩
abbrev I9 : Nat := 96
theorem dD : Tryz.prog.funcs[I9]? = some Tryz.f96 := Tryz.func96
theorem bO : Callable Tryz.prog I9 := ⟨⟨_, Tryz.func96, by kernel_rfl, by kernel_rfl⟩⟩
abbrev nY : Nat := 97
abbrev yO : Nat := 98
abbrev nZ : Nat := 99
abbrev lI : Nat := 100
abbrev rA : Nat := 101
abbrev y0 : Nat := 102
theorem P8 : Tryz.prog.funcs[y0]? = some Tryz.f102 := Tryz.func102
theorem O8 : Callable Tryz.prog y0 := ⟨⟨_, Tryz.func102, by kernel_rfl, by kernel_rfl⟩⟩
abbrev tP : Nat := 104
abbrev tJ : Nat := 105
abbrev E4 : Nat := 106
theorem aN : Tryz.prog.funcs[E4]? = some Tryz.f106 := Tryz.func106
theorem Y3 : Callable Tryz.prog E4 := ⟨⟨_, Tryz.func106, by kernel_rfl, by kernel_rfl⟩⟩
abbrev D7 : Nat := 107
theorem Y2 : Tryz.prog.funcs[D7]? = some Tryz.f107 := Tryz.func107
theorem W3 : Callable Tryz.prog D7 := ⟨⟨_, Tryz.func107, by kernel_rfl, by kernel_rfl⟩⟩
abbrev C2 : Nat := 108
theorem W1 : Tryz.prog.funcs[C2]? = some Tryz.f108 := Tryz.func108
theorem U7 : Callable Tryz.prog C2 := ⟨⟨_, Tryz.func108, by kernel_rfl, by kernel_rfl⟩⟩
abbrev qT : Nat := 109
abbrev pS : Nat := 110
abbrev D9 : Nat := 111
theorem aF : Tryz.prog.funcs[D9]? = some Tryz.f111 := Tryz.func111
theorem X5 : Callable Tryz.prog D9 := ⟨⟨_, Tryz.func111, by kernel_rfl, by kernel_rfl⟩⟩
abbrev yM : Nat := 112
abbrev N7 : Nat := 113
theorem iI : Tryz.prog.funcs[N7]? = some Tryz.f113 := Tryz.func113
theorem Q6 : Callable Tryz.prog N7 := ⟨⟨_, Tryz.func113, by kernel_rfl, by kernel_rfl⟩⟩
abbrev pP : Nat := 114
abbrev pO : Nat := 115
abbrev qJ : Nat := 117
abbrev cV : Nat := 118
abbrev z5 : Nat := 119
theorem R3 : Tryz.prog.funcs[z5]? = some Tryz.f119 := Tryz.func119
theorem D0 : Callable Tryz.prog z5 := ⟨⟨_, Tryz.func119, by kernel_rfl, by kernel_rfl⟩⟩
abbrev kD : Nat := 120
abbrev tQ : Nat := 121
abbrev gH : Nat := 122
abbrev pQ : Nat := 123
abbrev vB : Nat := 124
abbrev vI : Nat := 125
abbrev wN : Nat := 126
abbrev tR : Nat := 127
abbrev kE : Nat := 128
abbrev gG : Nat := 129
abbrev wM : Nat := 130
abbrev rO : Nat := 131
abbrev pA : Nat := 132
abbrev nW : Nat := 133
abbrev errors_New : Nat := 134
abbrev rN : Nat := 135
abbrev sP : Nat := 136
abbrev lH : Nat := 137
abbrev aq0 : Nat := 169
end F
namespace T
abbrev int64 : Nat := 2
abbrev int : Nat := 3
theorem qS : Tryz.prog.underlying int = some (.int .i64) := Tryz.underlying3
theorem G8 : Sz Tryz.prog int 1 := by unfold Sz; kernel_rfl
theorem a5 : NoR Tryz.prog int := ⟨_, Tryz.underlying3, rfl⟩
abbrev bool : Nat := 4
theorem u_bool : Tryz.prog.underlying bool = some (.bool) := Tryz.underlying4
theorem iP : Sz Tryz.prog bool 1 := by unfold Sz; kernel_rfl
theorem aJ : NoR Tryz.prog bool := ⟨_, Tryz.underlying4, rfl⟩
abbrev u8 : Nat := 5
theorem u_u8 : Tryz.prog.underlying u8 = some (.int .u8) := Tryz.underlying5
theorem sz_u8 : Sz Tryz.prog u8 1 := by unfold Sz; kernel_rfl
theorem wY : NoR Tryz.prog u8 := ⟨_, Tryz.underlying5, rfl⟩
abbrev string : Nat := 9
theorem j8 : Tryz.prog.underlying string = some (.string) := Tryz.underlying9
theorem u6 : Sz Tryz.prog string 1 := by unfold Sz; kernel_rfl
theorem i3 : NoR Tryz.prog string := ⟨_, Tryz.underlying9, rfl⟩
abbrev interface : Nat := 20
abbrev int32 : Nat := 21
abbrev J0 : Nat := 22
theorem j2 : Tryz.prog.underlying J0 = some (.slice 43) := Tryz.underlying22
theorem pR : Sz Tryz.prog J0 1 := by unfold Sz; kernel_rfl
theorem c6 : NoR Tryz.prog J0 := ⟨_, Tryz.underlying22, rfl⟩
theorem I0 : ElT Tryz.prog J0 43 3 32 := ElT.of (z := (.agg #[(.int .i64 0), (.int .i64 0), (.string ⟨#[]⟩)])) Tryz.underlying22 (by kernel_rfl) rfl (by decide)
abbrev ints : Nat := 23
theorem I6 : Tryz.prog.underlying ints = some (.slice 3) := Tryz.underlying23
theorem dG : Sz Tryz.prog ints 1 := by unfold Sz; kernel_rfl
theorem u9 : NoR Tryz.prog ints := ⟨_, Tryz.underlying23, rfl⟩
theorem sZ : ElT Tryz.prog ints 3 1 8 := ElT.of (z := (.int .i64 0)) Tryz.underlying23 (by kernel_rfl) rfl (by decide)
abbrev vC : Nat := 26
abbrev L_L_api_Mark : Nat := 29
abbrev strs : Nat := 30
theorem t4 : Tryz.prog.underlying strs = some (.slice 9) := Tryz.underlying30
theorem aM : Sz Tryz.prog strs 1 := by unfold Sz; kernel_rfl
theorem d9 : NoR Tryz.prog strs := ⟨_, Tryz.underlying30, rfl⟩
theorem mT : ElT Tryz.prog strs 9 1 16 := ElT.of (z := (.string ⟨#[]⟩)) Tryz.underlying30 (by kernel_rfl) rfl (by decide)
abbrev lE : Nat := 31
theorem G4 : Sz Tryz.prog lE 1 := by unfold Sz; kernel_rfl
theorem C0 : NoR Tryz.prog lE := ⟨_, Tryz.underlying31, rfl⟩
abbrev mU : Nat := 36
theorem J2 : Tryz.prog.underlying mU = some (.slice 5) := Tryz.underlying36
theorem vH : Sz Tryz.prog mU 1 := by unfold Sz; kernel_rfl
theorem M4 : NoR Tryz.prog mU := ⟨_, Tryz.underlying36, rfl⟩
abbrev dE : Nat := 43
theorem d3 : Sz Tryz.prog dE 3 := by unfold Sz; kernel_rfl
theorem i6 : IsR Tryz.prog dE := ⟨_, Tryz.underlying43, rfl⟩
abbrev pages : Nat := 55
theorem Q9 : Tryz.prog.underlying pages = some (.slice 30) := Tryz.underlying55
abbrev uY : Nat := 58
theorem l9 : Sz Tryz.prog uY 2 := by unfold Sz; kernel_rfl
theorem s7 : IsR Tryz.prog uY := ⟨_, Tryz.underlying58, rfl⟩
abbrev u64 : Nat := 63
theorem yV : Tryz.prog.underlying u64 = some (.int .u64) := Tryz.underlying63
theorem rQ : Sz Tryz.prog u64 1 := by unfold Sz; kernel_rfl
theorem l3 : NoR Tryz.prog u64 := ⟨_, Tryz.underlying63, rfl⟩
abbrev iO : Nat := 65
abbrev W0 : Nat := 69
theorem bP : Sz Tryz.prog W0 1 := by unfold Sz; kernel_rfl
theorem C9 : NoR Tryz.prog W0 := ⟨_, Tryz.underlying69, rfl⟩
abbrev lO : Nat := 71
abbrev error : Nat := 74
abbrev ax4 : Nat := 79
abbrev proof_slip : Nat := 81
abbrev iW : Nat := 83
abbrev uint : Nat := 101
abbrev P_uint8 : Nat := 103
abbrev tY : Nat := 105
abbrev P_proof_press : Nat := 111
abbrev V4 : Nat := 113
abbrev H9 : Nat := 114
theorem n9 : Tryz.prog.underlying H9 = some (.map 3 116) := Tryz.underlying114
abbrev mS : Nat := 116
abbrev A7 : Nat := 117
theorem C1 : Tryz.prog.underlying A7 = some (.map 121 120) := Tryz.underlying117
theorem Y1 : Sz Tryz.prog A7 1 := by unfold Sz; kernel_rfl
theorem j5 : NoR Tryz.prog A7 := ⟨_, Tryz.underlying117, rfl⟩
abbrev B9 : Nat := 118
theorem S5 : Sz Tryz.prog B9 1 := by unfold Sz; kernel_rfl
theorem h8 : NoR Tryz.prog B9 := ⟨_, Tryz.underlying118, rfl⟩
abbrev n8 : Nat := 120
theorem d6 : Sz Tryz.prog n8 2 := by unfold Sz; kernel_rfl
theorem i1 : IsR Tryz.prog n8 := ⟨_, Tryz.underlying120, rfl⟩
abbrev H2 : Nat := 121
theorem yW : Tryz.prog.underlying H2 = some (.array 2 3) := Tryz.underlying121
theorem D4 : Sz Tryz.prog H2 2 := by unfold Sz; kernel_rfl
theorem C3 : IsR Tryz.prog H2 := ⟨_, Tryz.underlying121, rfl⟩
abbrev kC : Nat := 123
theorem J7 : Tryz.prog.underlying kC = some (.slice 120) := Tryz.underlying123
theorem D2 : ElT Tryz.prog kC 120 2 32 := ElT.of (z := (.agg #[(.int .i64 0), (.slice none 0 0)])) Tryz.underlying123 (by kernel_rfl) rfl (by decide)
abbrev kW : Nat := 126
abbrev Q0 : Nat := 127
theorem gU : Sz Tryz.prog Q0 1 := by unfold Sz; kernel_rfl
theorem n7 : NoR Tryz.prog Q0 := ⟨_, Tryz.underlying127, rfl⟩
abbrev pE : Nat := 142
abbrev A24_uint8 : Nat := 144
abbrev A20_uint64 : Nat := 152
abbrev uint32 : Nat := 153
abbrev A65_uint8 : Nat := 154
abbrev w8 : Nat := 158
theorem S3 : Tryz.prog.underlying w8 = some (.array 256 4) := Tryz.underlying158
theorem B5 : Sz Tryz.prog w8 256 := by unfold Sz; kernel_rfl
theorem O6 : IsR Tryz.prog w8 := ⟨_, Tryz.underlying158, rfl⟩
abbrev wH : Nat := 162
abbrev strconv_Error : Nat := 170
abbrev wI : Nat := 173
abbrev A32_uint8 : Nat := 176
abbrev A64_uint8 : Nat := 177
abbrev xF : Nat := 185
abbrev A256_uint8 : Nat := 187
abbrev xB : Nat := 189
abbrev vA : Nat := 190
abbrev uZ : Nat := 193
abbrev vZ : Nat := 195
theorem g0 (p : Addr) (w : World) : (Instr.fieldAt 43 (.pointer (some p)) 0).run Tryz.prog w = .ok (.pointer (some (p.add 0))) w := by kernel_rfl
theorem c9 (p : Addr) (w : World) : (Instr.fieldAt 43 (.pointer (some p)) 1).run Tryz.prog w = .ok (.pointer (some (p.add 1))) w := by kernel_rfl
theorem k7 (p : Addr) (w : World) : (Instr.fieldAt 43 (.pointer (some p)) 2).run Tryz.prog w = .ok (.pointer (some (p.add 2))) w := by kernel_rfl
theorem w4 (p : Addr) (w : World) : (Instr.fieldAt 65 (.pointer (some p)) 0).run Tryz.prog w = .ok (.pointer (some (p.add 0))) w := by kernel_rfl
theorem n6 (p : Addr) (w : World) : (Instr.fieldAt 65 (.pointer (some p)) 1).run Tryz.prog w = .ok (.pointer (some (p.add 1))) w := by kernel_rfl
theorem d4 (p : Addr) (w : World) : (Instr.fieldAt 65 (.pointer (some p)) 2).run Tryz.prog w = .ok (.pointer (some (p.add 2))) w := by kernel_rfl
theorem A9 (p : Addr) (w : World) : (Instr.fieldAt 71 (.pointer (some p)) 0).run Tryz.prog w = .ok (.pointer (some (p.add 0))) w := by kernel_rfl
theorem t3 (p : Addr) (w : World) : (Instr.fieldAt 71 (.pointer (some p)) 1).run Tryz.prog w = .ok (.pointer (some (p.add 1))) w := by kernel_rfl
theorem z8 (p : Addr) (w : World) : (Instr.fieldAt 81 (.pointer (some p)) 0).run Tryz.prog w = .ok (.pointer (some (p.add 0))) w := by kernel_rfl
theorem j1 (p : Addr) (w : World) : (Instr.fieldAt 81 (.pointer (some p)) 1).run Tryz.prog w = .ok (.pointer (some (p.add 1))) w := by kernel_rfl
theorem j7 (p : Addr) (w : World) : (Instr.fieldAt 83 (.pointer (some p)) 0).run Tryz.prog w = .ok (.pointer (some (p.add 0))) w := by kernel_rfl
theorem s5 (p : Addr) (w : World) : (Instr.fieldAt 83 (.pointer (some p)) 1).run Tryz.prog w = .ok (.pointer (some (p.add 2))) w := by kernel_rfl
theorem l8 (p : Addr) (w : World) : (Instr.fieldAt 113 (.pointer (some p)) 0).run Tryz.prog w = .ok (.pointer (some (p.add 0))) w := by kernel_rfl
theorem l7 (p : Addr) (w : World) : (Instr.fieldAt 113 (.pointer (some p)) 1).run Tryz.prog w = .ok (.pointer (some (p.add 1))) w := by kernel_rfl
theorem r4 (p : Addr) (w : World) : (Instr.fieldAt 120 (.pointer (some p)) 0).run Tryz.prog w = .ok (.pointer (some (p.add 0))) w := by kernel_rfl
theorem q9 (p : Addr) (w : World) : (Instr.fieldAt 120 (.pointer (some p)) 1).run Tryz.prog w = .ok (.pointer (some (p.add 1))) w := by kernel_rfl
theorem pI (x1 : Value) (x2 : Value) (w : World) : (Instr.field 120 (.agg #[x1, x2]) 1).run Tryz.prog w = .ok x2 w := by kernel_rfl
theorem al_int (w : World) : (Instr.alloc 3 true (.tuple #[])).run Tryz.prog w = .ok (.pointer (some ⟨w.heap.size, 0, none⟩)) (w.alloc (.cells #[(.int .i64 0)] 3 (0, 0))) := by kernel_rfl
theorem al_bool (w : World) : (Instr.alloc 4 true (.tuple #[])).run Tryz.prog w = .ok (.pointer (some ⟨w.heap.size, 0, none⟩)) (w.alloc (.cells #[(.bool false)] 4 (0, 0))) := by kernel_rfl
theorem al_ints (w : World) : (Instr.alloc 23 true (.tuple #[])).run Tryz.prog w = .ok (.pointer (some ⟨w.heap.size, 0, none⟩)) (w.alloc (.cells #[(.slice none 0 0)] 23 (0, 0))) := by kernel_rfl
theorem tH (w : World) : (Instr.alloc 31 true (.tuple #[])).run Tryz.prog w = .ok (.pointer (some ⟨w.heap.size, 0, none⟩)) (w.alloc (.cells #[(.int .i64 0)] 31 (0, 0))) := by kernel_rfl
theorem t8 (w : World) : (Instr.alloc 43 true (.tuple #[])).run Tryz.prog w = .ok (.pointer (some ⟨w.heap.size, 0, none⟩)) (w.alloc (.cells #[(.int .i64 0), (.int .i64 0), (.string ⟨#[]⟩)] 43 (0, 0))) := by kernel_rfl
theorem lM (w : World) : (Instr.alloc 58 true (.tuple #[])).run Tryz.prog w = .ok (.pointer (some ⟨w.heap.size, 0, none⟩)) (w.alloc (.cells #[(.int .i64 0), (.int .i64 0)] 58 (0, 0))) := by kernel_rfl
theorem iK (w : World) : (Instr.alloc 71 true (.tuple #[])).run Tryz.prog w = .ok (.pointer (some ⟨w.heap.size, 0, none⟩)) (w.alloc (.cells #[(.pointer none), (.slice none 0 0)] 71 (0, 0))) := by kernel_rfl
theorem aK (w : World) : (Instr.alloc 117 true (.tuple #[])).run Tryz.prog w = .ok (.pointer (some ⟨w.heap.size, 0, none⟩)) (w.alloc (.cells #[(.map none)] 117 (0, 0))) := by kernel_rfl
theorem U6 (w : World) : (Instr.alloc 118 true (.tuple #[])).run Tryz.prog w = .ok (.pointer (some ⟨w.heap.size, 0, none⟩)) (w.alloc (.cells #[.nilFunc] 118 (0, 0))) := by kernel_rfl
theorem B3 (w : World) : (Instr.alloc 120 true (.tuple #[])).run Tryz.prog w = .ok (.pointer (some ⟨w.heap.size, 0, none⟩)) (w.alloc (.cells #[(.int .i64 0), (.slice none 0 0)] 120 (0, 0))) := by kernel_rfl
theorem yL (w : World) : (Instr.alloc 121 true (.tuple #[])).run Tryz.prog w = .ok (.pointer (some ⟨w.heap.size, 0, none⟩)) (w.alloc (.cells #[(.int .i64 0), (.int .i64 0)] 121 (0, 0))) := by kernel_rfl
theorem iL (w : World) : (Instr.alloc 127 true (.tuple #[])).run Tryz.prog w = .ok (.pointer (some ⟨w.heap.size, 0, none⟩)) (w.alloc (.cells #[.nilFunc] 127 (0, 0))) := by kernel_rfl
theorem Q8 (w : World) : (Instr.alloc 158 true (.tuple #[])).run Tryz.prog w = .ok (.pointer (some ⟨w.heap.size, 0, none⟩)) (w.alloc (.cells #[(.bool false), (.bool false), (.bool false), (.bool false), (.bool false), (.bool false), (.bool false), (.bool false), (.bool false), (.bool false), (.bool false), (.bool false), (.bool false), (.bool false), (.bool false), (.bool false), (.bool false), (.bool false), (.bool false), (.bool false), (.bool false), (.bool false), (.bool false), (.bool false), (.bool false), (.bool false), (.bool false), (.bool false), (.bool false), (.bool false), (.bool false), (.bool false), (.bool false), (.bool false), (.bool false), (.bool false), (.bool false), (.bool false), (.bool false), (.bool false), (.bool false), (.bool false), (.bool false), (.bool false), (.bool false), (.bool false), (.bool false), (.bool false), (.bool false), (.bool false), (.bool false), (.bool false), (.bool false), (.bool false), (.bool false), (.bool false), (.bool false), (.bool false), (.bool false), (.bool false), (.bool false), (.bool false), (.bool false), (.bool false), (.bool false), (.bool false), (.bool false), (.bool false), (.bool false), (.bool false), (.bool false), (.bool false), (.bool false), (.bool false), (.bool false), (.bool false), (.bool false), (.bool false), (.bool false), (.bool false), (.bool false), (.bool false), (.bool false), (.bool false), (.bool false), (.bool false), (.bool false), (.bool false), (.bool false), (.bool false), (.bool false), (.bool false), (.bool false), (.bool false), (.bool false), (.bool false), (.bool false), (.bool false), (.bool false), (.bool false), (.bool false), (.bool false), (.bool false), (.bool false), (.bool false), (.bool false), (.bool false), (.bool false), (.bool false), (.bool false), (.bool false), (.bool false), (.bool false), (.bool false), (.bool false), (.bool false), (.bool false), (.bool false), (.bool false), (.bool false), (.bool false), (.bool false), (.bool false), (.bool false), (.bool false), (.bool false), (.bool false), (.bool false), (.bool false), (.bool false), (.bool false), (.bool false), (.bool false), (.bool false), (.bool false), (.bool false), (.bool false), (.bool false), (.bool false), (.bool false), (.bool false), (.bool false), (.bool false), (.bool false), (.bool false), (.bool false), (.bool false), (.bool false), (.bool false), (.bool false), (.bool false), (.bool false), (.bool false), (.bool false), (.bool false), (.bool false), (.bool false), (.bool false), (.bool false), (.bool false), (.bool false), (.bool false), (.bool false), (.bool false), (.bool false), (.bool false), (.bool false), (.bool false), (.bool false), (.bool false), (.bool false), (.bool false), (.bool false), (.bool false), (.bool false), (.bool false), (.bool false), (.bool false), (.bool false), (.bool false), (.bool false), (.bool false), (.bool false), (.bool false), (.bool false), (.bool false), (.bool false), (.bool false), (.bool false), (.bool false), (.bool false), (.bool false), (.bool false), (.bool false), (.bool false), (.bool false), (.bool false), (.bool false), (.bool false), (.bool false), (.bool false), (.bool false), (.bool false), (.bool false), (.bool false), (.bool false), (.bool false), (.bool false), (.bool false), (.bool false), (.bool false), (.bool false), (.bool false), (.bool false), (.bool false), (.bool false), (.bool false), (.bool false), (.bool false), (.bool false), (.bool false), (.bool false), (.bool false), (.bool false), (.bool false), (.bool false), (.bool false), (.bool false), (.bool false), (.bool false), (.bool false), (.bool false), (.bool false), (.bool false), (.bool false), (.bool false), (.bool false), (.bool false), (.bool false), (.bool false), (.bool false), (.bool false), (.bool false), (.bool false), (.bool false), (.bool false), (.bool false), (.bool false), (.bool false), (.bool false), (.bool false), (.bool false), (.bool false), (.bool false), (.bool false), (.bool false)] 158 (0, 0))) := by kernel_rfl
theorem qN (x1 : Int) (w : World) : (Instr.build 43 #[(0, (.int .i64 x1))]).run Tryz.prog w = .ok (.agg #[(.int .i64 x1), (.int .i64 0), (.string ⟨#[]⟩)]) w := by kernel_rfl
theorem Q2 (x1 : Int) (x2 : Int) (w : World) : (Instr.build 43 #[(0, (.int .i64 x1)), (1, (.int .i64 x2))]).run Tryz.prog w = .ok (.agg #[(.int .i64 x1), (.int .i64 x2), (.string ⟨#[]⟩)]) w := by kernel_rfl
theorem v4 (x1 : Int) (x2 : Int) (x3 : ByteArray) (w : World) : (Instr.build 43 #[(0, (.int .i64 x1)), (1, (.int .i64 x2)), (2, (.string x3))]).run Tryz.prog w = .ok (.agg #[(.int .i64 x1), (.int .i64 x2), (.string x3)]) w := by kernel_rfl
theorem M5  (w : World) : (Instr.build 58 #[]).run Tryz.prog w = .ok (.agg #[(.int .i64 0), (.int .i64 0)]) w := by kernel_rfl
theorem D3 (x1 : Int) (x2 : Int) (w : World) : (Instr.build 58 #[(0, (.int .i64 x1)), (1, (.int .i64 x2))]).run Tryz.prog w = .ok (.agg #[(.int .i64 x1), (.int .i64 x2)]) w := by kernel_rfl
theorem Y0 (x1 : Option Addr) (x2 : Nat) (x3 : Nat) (x4 : Int) (w : World) : (Instr.build 65 #[(0, (.slice x1 x2 x3)), (2, (.int .u64 x4))]).run Tryz.prog w = .ok (.agg #[(.slice x1 x2 x3), (.int .i64 0), (.int .u64 x4)]) w := by kernel_rfl
theorem mM (x1 : ByteArray) (w : World) : (Instr.build 81 #[(0, (.string x1))]).run Tryz.prog w = .ok (.agg #[(.string x1), (.int .i64 0)]) w := by kernel_rfl
theorem kA (x1 : ByteArray) (x2 : Int) (w : World) : (Instr.build 83 #[(0, (.agg #[(.string x1), (.int .i64 x2)]))]).run Tryz.prog w = .ok (.agg #[(.string x1), (.int .i64 x2), (.slice none 0 0)]) w := by kernel_rfl
theorem mN  (w : World) : (Instr.build 113 #[]).run Tryz.prog w = .ok (.agg #[(.slice none 0 0), (.int .i64 0)]) w := by kernel_rfl
theorem pM  (w : World) : (Instr.build 120 #[]).run Tryz.prog w = .ok (.agg #[(.int .i64 0), (.slice none 0 0)]) w := by kernel_rfl
theorem kB (x1 : Int) (x2 : Option Addr) (x3 : Nat) (x4 : Nat) (w : World) : (Instr.build 120 #[(0, (.int .i64 x1)), (1, (.slice x2 x3 x4))]).run Tryz.prog w = .ok (.agg #[(.int .i64 x1), (.slice x2 x3 x4)]) w := by kernel_rfl
theorem qP (x1 : Int) (x2 : Int) (w : World) : (Instr.build 121 #[(0, (.int .i64 x1)), (1, (.int .i64 x2))]).run Tryz.prog w = .ok (.agg #[(.int .i64 x1), (.int .i64 x2)]) w := by kernel_rfl
theorem z9 (x1 : Int) (x2 : Int) (x3 : ByteArray) (w : World) : (Instr.buildSlice 22 1 #[(0, (.agg #[(.int .i64 x1), (.int .i64 x2), (.string x3)]))]).run Tryz.prog w = .ok (.slice (some ⟨w.heap.size, 0, none⟩) 1 1) (w.alloc (.cells #[(.int .i64 x1), (.int .i64 x2), (.string x3)] 43 (0, 0))) := by kernel_rfl
theorem mL (x1 : Int) (x2 : Int) (x3 : ByteArray) (x4 : Int) (x5 : Int) (x6 : ByteArray) (w : World) : (Instr.buildSlice 22 2 #[(0, (.agg #[(.int .i64 x1), (.int .i64 x2), (.string x3)])), (1, (.agg #[(.int .i64 x4), (.int .i64 x5), (.string x6)]))]).run Tryz.prog w = .ok (.slice (some ⟨w.heap.size, 0, none⟩) 2 2) (w.alloc (.cells #[(.int .i64 x1), (.int .i64 x2), (.string x3), (.int .i64 x4), (.int .i64 x5), (.string x6)] 43 (0, 0))) := by kernel_rfl
theorem mK (x1 : Int) (x2 : Int) (x3 : ByteArray) (x4 : Int) (x5 : Int) (x6 : ByteArray) (x7 : Int) (x8 : Int) (x9 : ByteArray) (w : World) : (Instr.buildSlice 22 3 #[(0, (.agg #[(.int .i64 x1), (.int .i64 x2), (.string x3)])), (1, (.agg #[(.int .i64 x4), (.int .i64 x5), (.string x6)])), (2, (.agg #[(.int .i64 x7), (.int .i64 x8), (.string x9)]))]).run Tryz.prog w = .ok (.slice (some ⟨w.heap.size, 0, none⟩) 3 3) (w.alloc (.cells #[(.int .i64 x1), (.int .i64 x2), (.string x3), (.int .i64 x4), (.int .i64 x5), (.string x6), (.int .i64 x7), (.int .i64 x8), (.string x9)] 43 (0, 0))) := by kernel_rfl
theorem yI  (w : World) : (Instr.buildSlice 23 0 #[]).run Tryz.prog w = .ok (.slice (some ⟨w.heap.size, 0, none⟩) 0 0) (w.alloc (.cells #[] 3 (0, 0))) := by kernel_rfl
theorem rH (x1 : Int) (w : World) : (Instr.buildSlice 23 1 #[(0, (.int .i64 x1))]).run Tryz.prog w = .ok (.slice (some ⟨w.heap.size, 0, none⟩) 1 1) (w.alloc (.cells #[(.int .i64 x1)] 3 (0, 0))) := by kernel_rfl
theorem dL (x1 : Int) (x2 : Int) (x3 : Int) (w : World) : (Instr.buildSlice 23 3 #[(0, (.int .i64 x1)), (1, (.int .i64 x2)), (2, (.int .i64 x3))]).run Tryz.prog w = .ok (.slice (some ⟨w.heap.size, 0, none⟩) 3 3) (w.alloc (.cells #[(.int .i64 x1), (.int .i64 x2), (.int .i64 x3)] 3 (0, 0))) := by kernel_rfl
theorem rG (x1 : ByteArray) (w : World) : (Instr.buildSlice 30 1 #[(0, (.string x1))]).run Tryz.prog w = .ok (.slice (some ⟨w.heap.size, 0, none⟩) 1 1) (w.alloc (.cells #[(.string x1)] 9 (0, 0))) := by kernel_rfl
theorem rF (x1 : ByteArray) (x2 : ByteArray) (w : World) : (Instr.buildSlice 30 2 #[(0, (.string x1)), (1, (.string x2))]).run Tryz.prog w = .ok (.slice (some ⟨w.heap.size, 0, none⟩) 2 2) (w.alloc (.cells #[(.string x1), (.string x2)] 9 (0, 0))) := by kernel_rfl
theorem rE (x1 : ByteArray) (x2 : ByteArray) (x3 : ByteArray) (w : World) : (Instr.buildSlice 30 3 #[(0, (.string x1)), (1, (.string x2)), (2, (.string x3))]).run Tryz.prog w = .ok (.slice (some ⟨w.heap.size, 0, none⟩) 3 3) (w.alloc (.cells #[(.string x1), (.string x2), (.string x3)] 9 (0, 0))) := by kernel_rfl
theorem lB (x1 : ByteArray) (x2 : ByteArray) (x3 : ByteArray) (x4 : ByteArray) (w : World) : (Instr.buildSlice 30 4 #[(0, (.string x1)), (1, (.string x2)), (2, (.string x3)), (3, (.string x4))]).run Tryz.prog w = .ok (.slice (some ⟨w.heap.size, 0, none⟩) 4 4) (w.alloc (.cells #[(.string x1), (.string x2), (.string x3), (.string x4)] 9 (0, 0))) := by kernel_rfl
theorem yH (x1 : ByteArray) (x2 : ByteArray) (x3 : ByteArray) (x4 : ByteArray) (x5 : ByteArray) (x6 : ByteArray) (w : World) : (Instr.buildSlice 30 6 #[(0, (.string x1)), (1, (.string x2)), (2, (.string x3)), (3, (.string x4)), (4, (.string x5)), (5, (.string x6))]).run Tryz.prog w = .ok (.slice (some ⟨w.heap.size, 0, none⟩) 6 6) (w.alloc (.cells #[(.string x1), (.string x2), (.string x3), (.string x4), (.string x5), (.string x6)] 9 (0, 0))) := by kernel_rfl
theorem wF (x1 : Option Addr) (x2 : Nat) (x3 : Nat) (x4 : Option Addr) (x5 : Nat) (x6 : Nat) (w : World) : (Instr.buildSlice 55 2 #[(0, (.slice x1 x2 x3)), (1, (.slice x4 x5 x6))]).run Tryz.prog w = .ok (.slice (some ⟨w.heap.size, 0, none⟩) 2 2) (w.alloc (.cells #[(.slice x1 x2 x3), (.slice x4 x5 x6)] 30 (0, 0))) := by kernel_rfl
theorem B0 (x1 : Int) (x2 : Option Addr) (x3 : Nat) (x4 : Nat) (w : World) : (Instr.buildSlice 123 1 #[(0, (.agg #[(.int .i64 x1), (.slice x2 x3 x4)]))]).run Tryz.prog w = .ok (.slice (some ⟨w.heap.size, 0, none⟩) 1 1) (w.alloc (.cells #[(.int .i64 x1), (.slice x2 x3 x4)] 120 (0, 0))) := by kernel_rfl
theorem sV (a0 b0 : Int) (a1 b1 : Int) (a2 b2 : Str) (w : World) : (Op.equalIn 10000 43 (.agg #[.int .i64 a0, .int .i64 a1, .string ⟨(a2 : Str).toArray⟩]) (.agg #[.int .i64 b0, .int .i64 b1, .string ⟨(b2 : Str).toArray⟩])).run Tryz.prog w = .ok (decide ((a0, a1, a2) = (b0, b1, b2))) w := by
  rw [run_equalIn_agg w 9999 43 _ _ (by simp only [Program.fieldsOf, Tryz.underlying43]) (by kernel_rfl)]; simp only [Program.fieldsOf, Tryz.underlying43]
  by_cases h0 : a0 = b0 <;> by_cases h1 : a1 = b1 <;> by_cases h2 : a2 = b2 <;>
    simp [Op.eqFields, part, isAgg, run_equalIn_int _ 9998 3 .i64 .i64 _ _ Tryz.underlying3, run_equalIn_string _ 9998 9 _ _ Tryz.underlying9, run_underlying Tryz.underlying3, run_underlying Tryz.underlying9, h0, h1, h2]
theorem sD (a0 b0 : Int) (a1 b1 : Int) (a2 b2 : Str) (w : World) : (binOp .neq 43 (.agg #[.int .i64 a0, .int .i64 a1, .string ⟨(a2 : Str).toArray⟩]) (.agg #[.int .i64 b0, .int .i64 b1, .string ⟨(b2 : Str).toArray⟩])).run Tryz.prog w = .ok (.bool (decide (¬ (a0, a1, a2) = (b0, b1, b2)))) w := by rw [run_neq_struct, sV, decide_not]; rfl
theorem sX (op : BinOp) (x y : Operand) (xs ys : Array Value) (w : World) : (eqGuard op 43 x y (.agg xs) (.agg ys)).run Tryz.prog w = .ok () w := run_eqGuard_agg w op 43 x y xs ys (by kernel_rfl)
theorem sW (a0 b0 : Int) (a1 b1 : Int) (w : World) : (Op.equalIn 10000 58 (.agg #[.int .i64 a0, .int .i64 a1]) (.agg #[.int .i64 b0, .int .i64 b1])).run Tryz.prog w = .ok (decide ((a0, a1) = (b0, b1))) w := by
  rw [run_equalIn_agg w 9999 58 _ _ (by simp only [Program.fieldsOf, Tryz.underlying58]) (by kernel_rfl)]; simp only [Program.fieldsOf, Tryz.underlying58]
  by_cases h0 : a0 = b0 <;> by_cases h1 : a1 = b1 <;>
    simp [Op.eqFields, part, isAgg, run_equalIn_int _ 9998 3 .i64 .i64 _ _ Tryz.underlying3, run_underlying Tryz.underlying3, h0, h1]
theorem sU (a0 b0 : Int) (a1 b1 : Int) (w : World) : (binOp .eql 58 (.agg #[.int .i64 a0, .int .i64 a1]) (.agg #[.int .i64 b0, .int .i64 b1])).run Tryz.prog w = .ok (.bool (decide ((a0, a1) = (b0, b1)))) w := by rw [run_eql_struct, sW]; rfl
theorem sY (op : BinOp) (x y : Operand) (xs ys : Array Value) (w : World) : (eqGuard op 58 x y (.agg xs) (.agg ys)).run Tryz.prog w = .ok () w := run_eqGuard_agg w op 58 x y xs ys (by kernel_rfl)
end T
end Go.Proofs.YtegfgegnhjkcfaaGreatDoor
end
section
namespace Go.W
universe u
open Go Go.RowKit
class El (α : Type) extends Inhabited α where
  cells : α → List Value
  sz : Nat
  len : ∀ a, (cells a).length = sz
  one : ∀ a, ∀ u ∈ cells a, u.oneCell' = true
def rows {α : Type} [El α] (l : List α) : List Value := l.flatMap El.cells
instance : El Str where
  default := []
  cells s := [str s]
  sz := 1
  len _ := rfl
  one a u h := by simp at h; subst h; rfl
instance : El Int where
  default := 0
  cells n := [int n]
  sz := 1
  len _ := rfl
  one a u h := by simp at h; subst h; rfl
instance : El UInt8 where
  default := 0
  cells n := [.int .u8 n.toNat]
  sz := 1
  len _ := rfl
  one a u h := by simp at h; subst h; rfl
abbrev Mk := Int × Int × Str
instance : El Mk where
  default := (0, 0, [])
  cells m := [int m.1, int m.2.1, str m.2.2]
  sz := 3
  len _ := rfl
  one a u h := by simp at h; rcases h with h | h | h <;> subst h <;> rfl
structure Sl (α : Type) where
  a : Option Addr
  c : Nat
  l : List α
instance {α : Type} : El (Sl α) where
  default := ⟨none, 0, []⟩
  cells p := [.slice p.a p.l.length p.c]
  sz := 1
  len _ := rfl
  one a u h := by simp at h; subst h; rfl
section
variable {α : Type} [El α]
theorem cA : rows ([] : List α) = [] := rfl
theorem D5 (a : α) (l : List α) : rows (a :: l) = El.cells a ++ rows l := rfl
theorem s4 (l l' : List α) : rows (l ++ l') = rows l ++ rows l' := by simp [rows]
theorem K6 (l : List α) : (rows l).length = l.length * El.sz α := by
  induction l with
  | nil => simp [cA]
  | cons a l ih => rw [D5, List.length_append, El.len, ih, List.length_cons, Nat.add_mul, Nat.one_mul, Nat.add_comm]
theorem H4 (l : List α) : ∀ u ∈ rows l, u.oneCell' = true := by
  intro u hu; obtain ⟨a, _, h⟩ := List.mem_flatMap.1 hu; exact El.one a u h
theorem kG (l : List α) (k : Nat) : (rows l).drop (k * El.sz α) = rows (l.drop k) := by
  induction l generalizing k with
  | nil => simp [cA]
  | cons a l ih =>
    cases k with
    | zero => simp
    | succ k =>
      rw [D5, List.drop_succ_cons, ← ih, List.drop_append, El.len, List.drop_eq_nil_of_le (by rw [El.len, Nat.succ_mul]; omega), List.nil_append]
      congr 1
      rw [Nat.succ_mul]
      omega
theorem rows_get' (l : List α) (i j : Nat) (hi : i < l.length) (hj : j < El.sz α) : (rows l)[i * El.sz α + j]? = (El.cells (l.getD i default))[j]? := by
  have h := congrArg (·[j]?) (kG l i); simp only [List.getElem?_drop] at h; rw [h, List.drop_eq_getElem_cons hi, D5, List.getElem?_append_left (by rw [El.len]; exact hj)]
  simp [List.getD_eq_getElem?_getD, hi]
theorem rows_get {l : List α} {i j : Nat} {v : Value} (hi : i < l.length) (hv : (El.cells (l.getD i default))[j]? = some v) : (rows l)[i * El.sz α + j]? = some v := by
  have hj : j < El.sz α := by
    have := (List.getElem?_eq_some_iff.1 hv).1
    rwa [El.len] at this
  rw [rows_get' l i j hi hj, hv]
theorem a7 {l : List α} {i : Nat} {v : Value} (hi : i < l.length) (hv : (El.cells (l.getD i default))[0]? = some v) : (rows l)[i * El.sz α]? = some v := rows_get (j := 0) hi hv
theorem n2 {l : List α} {i : Nat} (hi : i < l.length) : ∀ j u, (El.cells (l.getD i default))[j]? = some u → (rows l)[i * El.sz α + j]? = some u := fun j u h => rows_get hi h
theorem rows_lt {l : List α} {i : Nat} (hi : i < l.length) (h0 : 0 < El.sz α) : i * El.sz α < (rows l).length := by
  rw [K6]; exact Nat.mul_lt_mul_of_pos_right hi h0
theorem dH (l : List α) (k : Nat) : (rows l).take (k * El.sz α) = rows (l.take k) := by
  induction l generalizing k with
  | nil => simp [cA]
  | cons a l ih =>
    cases k with
    | zero => simp [cA]
    | succ k =>
      rw [D5, List.take_succ_cons, D5, ← ih, Nat.succ_mul, List.take_append, El.len, List.take_of_length_le (by rw [El.len]; omega)]
      congr 2
      omega
end
theorem rU {c : Cx} {Q : Exit → Act → World → Prop} {fr : Fr} {hp : Hp} {L : List Fact} {ops : Array Oper} {rest : List Oper} {d : Tmp} {ty : TypeId} {pos : String} {af : Array Edge}
    {s t : TypeId} {x : Operand} {ks k k' : IntKind} {a : Int} (z : Int) (hd : Nat.blt d c.n = true) (hs : c.P.underlying s = some (.int ks)) (ht : c.P.underlying t = some (.int k')) (hx : ev fr x = some (.int k a)) (hz : k'.wrap a = z)
    (kk : HL c ops Q rest ((d, .int k' z) :: fr) hp L) : HL c ops Q (⟨some d, .convert s t x, ty, pos, af, none⟩ :: rest) fr hp L :=
  l4 _ rfl rfl hd (fun a' w ha _ => by
    simp only [execOp, ha.ev hx, Sem.run_bind, convert, run_underlying hs, run_underlying ht, Result.andThen_ok]; rw [← hz]
    cases ks <;> rfl) kk
theorem r_rem {c : Cx} {Q : Exit → Act → World → Prop} {fr : Fr} {hp : Hp} {L : List Fact} {ops : Array Oper} {rest : List Oper} {d : Tmp} {ty : TypeId} {pos : String} {af : Array Edge}
    {t yt : TypeId} {x y : Operand} {kd : IntKind} {a b : Int} (hd : Nat.blt d c.n = true) (hx : ev fr x = some (.int kd a)) (hy : ev fr y = some (.int kd b)) (hb : b ≠ 0)
    (kk : HL c ops Q rest ((d, .int kd (a.tmod b)) :: fr) hp L) : HL c ops Q (⟨some d, .binOp .rem t x y yt, ty, pos, af, none⟩ :: rest) fr hp L :=
  B6 _ hd hx hy (fun _ => rfl) (fun w => by
    have : (binOp .rem t (.int kd a) (.int kd b)) = Op.intDiv .rem kd a b := by cases kd <;> rfl
    rw [this]
    simp [Op.intDiv, hb]) kk
theorem wrapU (n : Int) : 0 ≤ IntKind.u64.wrap n ∧ IntKind.u64.wrap n < 18446744073709551616 := by
  simp only [IntKind.wrap, IntKind.bits, IntKind.signed]
  simp
  omega
theorem r6 {α : Type} [El α] {c : Cx} {Q : Exit → Act → World → Prop} {fr : Fr} {hp : Hp} {L : List Fact} {ops : Array Oper} {rest : List Oper} {d : Tmp} {ty : TypeId} {pos : String} {af : Array Edge}
    {t e : TypeId} {x i : Operand} {A : Option Addr} {n cp : Nat} {kd : IntKind} {z : Int} (l : List α) (j : Nat) (hd : Nat.blt d c.n = true) (ht : c.P.underlying t = some (.slice e)) (hz : Sz c.P e (El.sz α))
    (hx : ev fr x = some (.slice A n cp)) (hi : ev fr i = some (.int kd z)) (hjz : z = (j : Int)) (hr : Row A (rows l) ∈ L) (hn : n = l.length) (hj : j < l.length) (h0 : 0 < El.sz α)
    (k : HL c ops Q rest ((d, .pointer (some ((adr A).add (j * El.sz α)))) :: fr) hp L) : HL c ops Q (⟨some d, .indexAddr t x i, ty, pos, af, none⟩ :: rest) fr hp L :=
  tX j hd ht hz hx hi hjz (by omega) hr (rows_lt hj h0) k
def Rows2 {α : Type} [El α] (A : Option Addr) (ps : List (Sl α)) : Fact where
  P w := (Row A (rows ps)).P w ∧ ∀ p ∈ ps, (Row p.a (rows p.l)).P w
  fp k := (Row A (rows ps)).fp k ∨ ∃ p ∈ ps, (Row p.a (rows p.l)).fp k
  st w w' h hP := ⟨(Row A (rows ps)).st w w' (fun k hk => h k (.inl hk)) hP.1, fun p hp => (Row p.a (rows p.l)).st w w' (fun k hk => h k (.inr ⟨p, hp, hk⟩)) (hP.2 p hp)⟩
  lt w hP k hk := by
    rcases hk with hk | ⟨p, hp, hk⟩
    · exact (Row A (rows ps)).lt w hP.1 k hk
    exact (Row p.a (rows p.l)).lt w (hP.2 p hp) k hk
section
variable {c : Cx} {Q : Exit → Act → World → Prop} {fr : Fr} {hp : Hp} {L : List Fact} {ops : Array Oper} {rest : List Oper}
theorem yS {α : Type} [El α] {b : Bx} {w : World} {A : Option Addr} {ps : List (Sl α)} (h : Rows2 A ps ∈ L) (hw : WI b w hp L) : WI b w hp (Row A (rows ps) :: L) :=
  N9 hw (hw.fs _ h).1 (fun k hk => ⟨_, h, .inl hk⟩)
theorem yU {α : Type} [El α] {b : Bx} {w : World} {A : Option Addr} {ps : List (Sl α)} {p : Sl α} (h : Rows2 A ps ∈ L) (hp' : p ∈ ps) (hw : WI b w hp L) : WI b w hp (Row p.a (rows p.l) :: L) :=
  N9 hw ((hw.fs _ h).2 p hp') (fun k hk => ⟨_, h, .inr ⟨p, hp', hk⟩⟩)
theorem pD {α : Type} [El α] {A : Option Addr} {ps : List (Sl α)} {x : Code} (h : Rows2 A ps ∈ L) (k : HC c x Q fr hp (Row A (rows ps) :: L)) : HC c x Q fr hp L := fun a w ha hw => k a w ha (yS h hw)
theorem pC {α : Type} [El α] {A : Option Addr} {ps : List (Sl α)} {p : Sl α} (h : Rows2 A ps ∈ L) (hp' : p ∈ ps) (k : HL c ops Q rest fr hp (Row p.a (rows p.l) :: L)) : HL c ops Q rest fr hp L := fun a w ha hw => k a w ha (yU h hp' hw)
variable {d : Tmp} {ty : TypeId} {pos : String} {af : Array Edge}
theorem p_t {x y z : Operand} {v : Value} {b : Bool} (hd : Nat.blt d c.n = true) (hx : ev fr x = some (.bool b)) (hb : b = true) (hy : ev fr y = some v) (k : HL c ops Q rest ((d, v) :: fr) hp L) : HL c ops Q (⟨some d, .pick x y z, ty, pos, af, none⟩ :: rest) fr hp L := by
  subst hb; exact zI hd hx hy k
theorem p_f {x y z : Operand} {v : Value} {b : Bool} (hd : Nat.blt d c.n = true) (hx : ev fr x = some (.bool b)) (hb : b = false) (hz : ev fr z = some v) (k : HL c ops Q rest ((d, v) :: fr) hp L) : HL c ops Q (⟨some d, .pick x y z, ty, pos, af, none⟩ :: rest) fr hp L := by
  subst hb; exact zJ hd hx hz k
theorem c_t {x : Operand} {b : Bool} {thn els : Code} (hx : ev fr x = some (.bool b)) (hb : b = true) (ht : HC c thn Q fr hp L) : HC c (.cond x thn els) Q fr hp L := by subst hb; exact xY hx ht
theorem c_f {x : Operand} {b : Bool} {thn els : Code} (hx : ev fr x = some (.bool b)) (hb : b = false) (hf : HC c els Q fr hp L) : HC c (.cond x thn els) Q fr hp L := by subst hb; exact xZ hx hf
theorem bt1 {b : Bool} (h : (b == true) = true) : b = true := by cases b <;> simp_all
theorem bt2 {b : Bool} (h : (b == false) = false) : b = true := by cases b <;> simp_all
theorem bf1 {b : Bool} (h : (b == false) = true) : b = false := by cases b <;> simp_all
theorem bf2 {b : Bool} (h : (b == true) = false) : b = false := by cases b <;> simp_all
theorem gy {b : Bool} (h : (b == true) = false) : (b == false) = true := by cases b <;> simp_all
theorem gn {b : Bool} (h : (b == true) = true) : (b == false) = false := by cases b <;> simp_all
theorem gQ {o : Oper} {j : Nat} {want : Bool} {t : Tmp} {v : Value} (ho : o.dst = some d) (hg : o.guard = some (j, want)) (hd : Nat.blt d c.n = true) (hj : (ops[j]?).bind (·.dst) = some t) (hv : lk fr t = some v) (hu : v = undef)
    (k : HL c ops Q rest ((d, undef) :: fr) hp L) : HL c ops Q (o :: rest) fr hp L := by
  subst hu; intro a w ha hw; refine tN ?_ ?_
  · rw [Region.wanted, hg]
    show (yielded ops a.tmps j == some want) = false; have h1 := ha.at_ t _ hv
    have : yielded ops a.tmps j = none := by
      unfold yielded; rw [hj]; simp only [Option.bind_some]
      cases h2 : a.tmps[t]? with
      | none => rfl
      | some u => simp [Array.getD_eq_getD_getElem?, h2, undef] at h1; rw [h1]
    rw [this]; rfl
  rw [ho]; exact k _ _ (ha.put (by simpa using hd) _) hw
theorem k9 {dst : Option Tmp} {op : Op} {j : Nat} {want b : Bool} {t : Tmp} (hj : (ops[j]?).bind (·.dst) = some t) (hv : lk fr t = some (.bool b))
    (hy : (b == want) = true → HL c ops Q (⟨dst, op, ty, pos, af, some (j, want)⟩ :: rest) fr hp L) (hn : (b == want) = false → HL c ops Q (⟨dst, op, ty, pos, af, some (j, want)⟩ :: rest) fr hp L) :
    HL c ops Q (⟨dst, op, ty, pos, af, some (j, want)⟩ :: rest) fr hp L := by
  cases hb : (b == want)
  · exact hn hb
  exact hy hb
theorem uP {O0 : Hp} {K : Env → Prop} {r : List Oper} {E : Env} {want b : Bool} {t : Tmp} (hv : lkE E t = some (.ex (.bool b))) (hy : (b == want) = true → HB c ops fr O0 hp L K r E) (hn : (b == want) = false → HB c ops fr O0 hp L K r E) : HB c ops fr O0 hp L K r E := by
  cases hb : (b == want)
  · exact hn hb
  exact hy hb
theorem i4 {x : Operand} {p : Prop} [Decidable p] {thn els : Code} (hx : ev fr x = some (.bool (decide p))) (ht : p → HC c thn Q fr hp L) (hf : ¬ p → HC c els Q fr hp L) : HC c (.cond x thn els) Q fr hp L :=
  c5 hx (fun h => ht (of_decide_eq_true h)) (fun h => hf (of_decide_eq_false h))
end
theorem m0 {α : Type u} {a  : α} {l : List α} : a ∈ a :: l := .head _
theorem m1 {α : Type u} {a x0 : α} {l : List α} : a ∈ x0 :: a :: l := .tail _ (.head _)
theorem m2 {α : Type u} {a x0 x1 : α} {l : List α} : a ∈ x0 :: x1 :: a :: l := .tail _ (.tail _ (.head _))
theorem m3 {α : Type u} {a x0 x1 x2 : α} {l : List α} : a ∈ x0 :: x1 :: x2 :: a :: l := .tail _ (.tail _ (.tail _ (.head _)))
theorem m4 {α : Type u} {a x0 x1 x2 x3 : α} {l : List α} : a ∈ x0 :: x1 :: x2 :: x3 :: a :: l := .tail _ (.tail _ (.tail _ (.tail _ (.head _))))
theorem m5 {α : Type u} {a x0 x1 x2 x3 x4 : α} {l : List α} : a ∈ x0 :: x1 :: x2 :: x3 :: x4 :: a :: l := .tail _ (.tail _ (.tail _ (.tail _ (.tail _ (.head _)))))
theorem m6 {α : Type u} {a x0 x1 x2 x3 x4 x5 : α} {l : List α} : a ∈ x0 :: x1 :: x2 :: x3 :: x4 :: x5 :: a :: l := .tail _ (.tail _ (.tail _ (.tail _ (.tail _ (.tail _ (.head _))))))
theorem m7 {α : Type u} {a x0 x1 x2 x3 x4 x5 x6 : α} {l : List α} : a ∈ x0 :: x1 :: x2 :: x3 :: x4 :: x5 :: x6 :: a :: l := .tail _ (.tail _ (.tail _ (.tail _ (.tail _ (.tail _ (.tail _ (.head _)))))))
theorem m8 {α : Type u} {a x0 x1 x2 x3 x4 x5 x6 x7 : α} {l : List α} : a ∈ x0 :: x1 :: x2 :: x3 :: x4 :: x5 :: x6 :: x7 :: a :: l := .tail _ (.tail _ (.tail _ (.tail _ (.tail _ (.tail _ (.tail _ (.tail _ (.head _))))))))
theorem m9 {α : Type u} {a x0 x1 x2 x3 x4 x5 x6 x7 x8 : α} {l : List α} : a ∈ x0 :: x1 :: x2 :: x3 :: x4 :: x5 :: x6 :: x7 :: x8 :: a :: l := .tail _ (.tail _ (.tail _ (.tail _ (.tail _ (.tail _ (.tail _ (.tail _ (.tail _ (.head _)))))))))
theorem m10 {α : Type u} {a x0 x1 x2 x3 x4 x5 x6 x7 x8 x9 : α} {l : List α} : a ∈ x0 :: x1 :: x2 :: x3 :: x4 :: x5 :: x6 :: x7 :: x8 :: x9 :: a :: l := .tail _ (.tail _ (.tail _ (.tail _ (.tail _ (.tail _ (.tail _ (.tail _ (.tail _ (.tail _ (.head _))))))))))
theorem m11 {α : Type u} {a x0 x1 x2 x3 x4 x5 x6 x7 x8 x9 x10 : α} {l : List α} : a ∈ x0 :: x1 :: x2 :: x3 :: x4 :: x5 :: x6 :: x7 :: x8 :: x9 :: x10 :: a :: l := .tail _ (.tail _ (.tail _ (.tail _ (.tail _ (.tail _ (.tail _ (.tail _ (.tail _ (.tail _ (.tail _ (.head _)))))))))))
theorem m12 {α : Type u} {a x0 x1 x2 x3 x4 x5 x6 x7 x8 x9 x10 x11 : α} {l : List α} : a ∈ x0 :: x1 :: x2 :: x3 :: x4 :: x5 :: x6 :: x7 :: x8 :: x9 :: x10 :: x11 :: a :: l := .tail _ (.tail _ (.tail _ (.tail _ (.tail _ (.tail _ (.tail _ (.tail _ (.tail _ (.tail _ (.tail _ (.tail _ (.head _))))))))))))
theorem perm3 {α : Type} (a b c : α) (l : List α) : (a :: b :: c :: l).Perm (c :: a :: b :: l) := by
  have h1 : (a :: b :: c :: l).Perm (a :: c :: b :: l) := (List.Perm.swap c b l).cons a; exact h1.trans (.swap c a _)
theorem perm2 {α : Type} (a b : α) (l : List α) : (a :: b :: l).Perm (b :: a :: l) := .swap b a l
theorem perm4 {α : Type} (a b c d : α) (l : List α) : (a :: b :: c :: d :: l).Perm (d :: a :: b :: c :: l) := ((perm3 b c d l).cons a).trans (.swap d a _)
end Go.W
end
section
namespace Go.W
open Go Go.RowKit
section
variable {c : Cx} {Q : Exit → Act → World → Prop} {fr : Fr} {hp : Hp} {L : List Fact} {ops : Array Oper} {rest : List Oper}
variable {d : Tmp} {ty : TypeId} {pos : String} {af : Array Edge}
theorem zW {g : Nat} {cs : Array Value} {t : TypeId} {fz : Nat × Nat} {w : World} (h : w.heap[g]? = some (.cells cs t fz)) {us : List Value} (hu : us <+: cs.toList) : (Row (i5 g) us).P w := fun j u hj => by
  refine ⟨_, rfl, ?_⟩; rw [dF, Nat.zero_add]; obtain ⟨r, hr⟩ := hu
  have : cs[j]? = some u := by
    rw [← Array.getElem?_toList, ← hr, List.getElem?_append]; have hlt : j < us.length := (List.getElem?_eq_some_iff.1 hj).1; rw [if_pos hlt, hj]
  simp [World.cell?, h, this]
theorem vJ (s : Str) : rows s = s.map (fun b => Value.int .u8 b.toNat) := by
  induction s with
  | nil => rfl
  | cons a s ih => rw [D5, ih]; rfl
theorem wR {s t e : TypeId} {x : Operand} {l : Str} (hd : Nat.blt d c.n = true) (hs : c.P.underlying s = some .string) (ht : c.P.underlying t = some (.slice e)) (he : c.P.underlying e = some (.int .u8)) (hx : ev fr x = some (str l))
    (k : ∀ g cap, HL c ops Q rest ((d, .slice (i5 g) l.length cap) :: fr) hp (Row (i5 g) (rows l) :: L)) : HL c ops Q (⟨some d, .convert s t x, ty, pos, af, none⟩ :: rest) fr hp L :=
  iG rfl rfl hd fun a w ha hw => by
    have h1 := run_bytes_of_string (P := c.P) w s t e (.mk l.toArray) hs ht he; refine ⟨_, (w.drew.alloc (.cells (bytesRow (.mk l.toArray) (grownCap w (ByteArray.mk l.toArray).size 0 e)) e ((bytesRow (.mk l.toArray) (grownCap w (ByteArray.mk l.toArray).size 0 e)).size, (bytesRow (.mk l.toArray) (grownCap w (ByteArray.mk l.toArray).size 0 e)).size + 1))), hp, _, ?_, ?_, k w.heap.size (grownCap w (ByteArray.mk l.toArray).size 0 e)⟩
    · simp only [execOp, ha.ev hx, str, Sem.run_bind, h1, Result.andThen_ok, Sem.run_pure]
      rfl
    have h2 := (hw.quiet (pJ w)).alloc (.cells (bytesRow (.mk l.toArray) (grownCap w (ByteArray.mk l.toArray).size 0 e)) e ((bytesRow (.mk l.toArray) (grownCap w (ByteArray.mk l.toArray).size 0 e)).size, (bytesRow (.mk l.toArray) (grownCap w (ByteArray.mk l.toArray).size 0 e)).size + 1)); refine WI.letgo h2 (zW (h2.own (w.heap.size, _) (.head _)) ?_) (fun k hk => by obtain ⟨ad, e', h3, _⟩ := hk; cases e'; exact h3.symm); rw [vJ, bytesRow]
    simp
theorem t9 {t e : TypeId} {x : Operand} {g : Nat} {cs : Array Value} {fz : Nat × Nat} {n : Nat} (hd : Nat.blt d c.n = true) (ht' : IsR c.P t) (hz' : Sz c.P t n) (hx : ev fr x = some (.pointer (i5 g))) (h : (g, Obj.cells cs e fz) ∈ hp) (hn : cs.size = n)
    (k : HL c ops Q rest ((d, .agg cs) :: fr) hp L) : HL c ops Q (⟨some d, .load t x, ty, pos, af, none⟩ :: rest) fr hp L :=
  p6 (cs := cs.toList) hd ht' hz' hx (by simpa using hn) (yF h (fun i u hu => by simpa using hu)) k
end
end Go.W
end
section
namespace Go.W
open Go Go.RowKit
abbrev Ment (κ : Type) := κ × Value × Nat
def entOf {κ : Type} (enc : κ → Value) (p : Ment κ) : MapEntry := ⟨enc p.1, p.2.1, p.2.2⟩
def mapO {κ : Type} (enc : κ → Value) (l : List (Ment κ)) (clk : Nat) : Obj := .map (l.map (entOf enc)).toArray clk
def findM {κ : Type} [DecidableEq κ] (k : κ) : List (Ment κ) → Nat → Option (Nat × Value)
  | [], _ => none
  | p :: l, i => if p.1 = k then some (i, p.2.1) else findM k l (i + 1)
def getM {κ : Type} [DecidableEq κ] (l : List (Ment κ)) (k : κ) : Option Value := (findM k l 0).map (·.2)
def putM {κ : Type} [DecidableEq κ] (l : List (Ment κ)) (k : κ) (v : Value) (clk : Nat) : List (Ment κ) :=
  match findM k l 0 with
  | some (i, _) => l.modify i fun p => (k, v, p.2.2)
  | none => l ++ [(k, v, clk)]
def clkM {κ : Type} [DecidableEq κ] (l : List (Ment κ)) (k : κ) (clk : Nat) : Nat := if (findM k l 0).isSome then clk else clk + 1
structure KeyC (P : Program) (kt : TypeId) {κ : Type} [DecidableEq κ] (enc : κ → Value) : Prop where
  chk : ∀ b k w, (Instr.checkKey b 10000 kt (enc k)).run P w = .ok () w
  find : ∀ k l w, (Instr.findKey kt (enc k) (l.map (entOf enc))).run P w = .ok (findM k l 0) w
  stays : ∀ k w, (Instr.keyThatStays (enc k) (enc k)).run P w = .ok (enc k) w
theorem lL (k : Int) : ∀ (l : List (Ment Int)) (i : Nat), Instr.findNow (.int .i64) (int k) (l.map (entOf int)) i = some (findM k l i)
  | [], i => rfl
  | p :: l, i => by
    rw [List.map_cons, Instr.findNow]; simp only [Instr.sameNow, entOf, findM]
    by_cases h : p.1 = k
    · simp [h]
    have h' : ¬ k = p.1 := fun e => h e.symm; simp only [if_true, h, if_false, beq_eq_false_iff_ne.2 h']; exact lL k l (i + 1)
theorem lK (k : Str) : ∀ (l : List (Ment Str)) (i : Nat), Instr.findNow .string (str k) (l.map (entOf str)) i = some (findM k l i)
  | [], i => rfl
  | p :: l, i => by
    rw [List.map_cons, Instr.findNow]; simp only [str, Instr.sameNow, entOf, findM]
    have hb : ((ByteArray.mk k.toArray) == ByteArray.mk p.1.toArray) = decide (p.1 = k) := by
      rw [Bool.eq_iff_iff, MapKept.bytes_beq, decide_eq_true_iff]
      constructor
      · intro e
        injection e with e
        have := congrArg Array.toList e
        simpa using this.symm
      intro e; rw [e]
    rw [hb]
    by_cases h : p.1 = k
    · simp [h]
    simp only [h, decide_false, if_false]; exact lK k l (i + 1)
theorem KeyC.int {P : Program} {kt : TypeId} (h : P.underlying kt = some (.int .i64)) : KeyC P kt W.int where
  chk b k w := MapKept.run_checkKey h (by simp [MapKept.IsKey]) b 9999
  find k l w := MapKept.run_findKey h (lL k l 0)
  stays k w := MapKept.run_keyThatStays (d := .int .i64) (by simp [MapKept.IsKey])
theorem KeyC.str {P : Program} {kt : TypeId} (h : P.underlying kt = some .string) : KeyC P kt W.str where
  chk b k w := MapKept.run_checkKey h (by simp [MapKept.IsKey, W.str]) b 9999
  find k l w := MapKept.run_findKey h (lK k l 0)
  stays k w := MapKept.run_keyThatStays (d := .string) (by simp [MapKept.IsKey, W.str])
def pair (p : Int × Int) : Value := .agg #[W.int p.1, W.int p.2]
theorem Z6 {P : Program} {e : TypeId} (he : P.underlying e = some (.int .i64)) (cs : Array Value) (i : Nat) (v : Value) (hv : cs[i]? = some v) (w : World) : (part e cs i).run P w = .ok v w := by
  have hagg : (isAgg e).run P w = .ok false w := by
    unfold isAgg; rw [Sem.run_bind, run_underlying he w]
    rfl
  simp [part, Sem.run_bind, hagg, hv]
theorem wB {P : Program} {e : TypeId} (he : P.underlying e = some (.int .i64)) (d : Nat) (a b : Int) (w : World) : (Op.equalIn (d + 1) e (W.int a) (W.int b)).run P w = .ok (a == b) w := by
  simp [Op.equalIn, run_underlying he]
theorem eq_pair {P : Program} {kt e : TypeId} (h : P.underlying kt = some (.array 2 e)) (he : P.underlying e = some (.int .i64)) (hz : Sz P e 1) (p q : Int × Int) (w : World) : (Op.equal kt (pair p) (pair q)).run P w = .ok (decide (p = q)) w := by
  have hs := O1 hz w
  have key : ∀ d, (Op.equalIn (d + 2) kt (pair p) (pair q)).run P w = .ok (decide (p = q)) w := by
    intro d; obtain ⟨a, b⟩ := p; obtain ⟨a', b'⟩ := q; have p0 := Z6 he #[W.int a, W.int b] 0 (W.int a) rfl w; have p1 := Z6 he #[W.int a, W.int b] 1 (W.int b) rfl w; have q0 := Z6 he #[W.int a', W.int b'] 0 (W.int a') rfl w; have q1 := Z6 he #[W.int a', W.int b'] 1 (W.int b') rfl w; unfold Op.equalIn; simp only [Sem.run_bind, run_underlying h, pair, hs, Result.andThen_ok, Std.Legacy.Range.forIn_eq_forIn_range', Std.Legacy.Range.size, Nat.sub_zero, Nat.reduceAdd, Nat.reduceSub, Nat.reduceDiv, List.range', List.forIn_cons, List.forIn_nil, Nat.zero_mul, Nat.mul_one, Nat.zero_add, p0, p1, q0, q1, wB he d]
    by_cases h1 : a = a'
    · subst h1
      by_cases h2 : b = b'
      · subst h2; simp [p1, wB he d]
      simp [h2, p1, q1, wB he d]
    simp [h1]
  exact key 9998
theorem pG {P : Program} {kt e : TypeId} (h : P.underlying kt = some (.array 2 e)) (he : P.underlying e = some (.int .i64)) (hz : Sz P e 1) (k : Int × Int) (w : World) : ∀ (l : List (Ment (Int × Int))) (i : Nat), (Instr.findAsking kt (pair k) (l.map (entOf pair)) i).run P w = .ok (findM k l i) w
  | [], i => rfl
  | p :: l, i => by
    rw [List.map_cons, Instr.findAsking]; simp only [Sem.run_bind, entOf, eq_pair h he hz, Result.andThen_ok, findM]
    by_cases hk : p.1 = k
    · simp [hk]
    have h' : ¬ k = p.1 := fun e => hk e.symm; simp only [hk, h', decide_false, Bool.false_eq_true, if_false]; exact pG h he hz k w l (i + 1)
theorem KeyC.pair {P : Program} {kt e : TypeId} (h : P.underlying kt = some (.array 2 e)) (he : P.underlying e = some (.int .i64)) (hz : Sz P e 1) : KeyC P kt W.pair where
  chk b k w := by
    have hs := O1 hz w; have p0 := Z6 he #[W.int k.1, W.int k.2] 0 (W.int k.1) rfl w; have p1 := Z6 he #[W.int k.1, W.int k.2] 1 (W.int k.2) rfl w; have c : ∀ (n : Int), (Instr.checkKey b 9999 e (W.int n)).run P w = .ok () w := fun n => MapKept.run_checkKey he (by simp [MapKept.IsKey]) b 9998; unfold Instr.checkKey
    simp [run_underlying h, W.pair, hs, Std.Legacy.Range.forIn_eq_forIn_range', List.range', p0, p1, c]
  find k l w := by
    unfold Instr.findKey; simp only [Sem.run_bind, run_underlying h, Result.andThen_ok]
    have : Instr.findNow (.array 2 e) (W.pair k) (l.map (entOf W.pair)) 0 = none ∨ (l = [] ∧ Instr.findNow (.array 2 e) (W.pair k) (l.map (entOf W.pair)) 0 = some none) := by
      cases l with
      | nil => exact .inr ⟨rfl, rfl⟩
      | cons p l => exact .inl rfl
    rcases this with h1 | ⟨rfl, h1⟩
    · rw [h1]
      exact pG h he hz k w l 0
    rw [h1]; rfl
  stays k w := by
    obtain ⟨a, b⟩ := k
    have : Instr.sameBits 10000 (W.pair (a, b)) (W.pair (a, b)) = true := by
      simp [Instr.sameBits, W.pair]
    unfold Instr.keyThatStays; rw [if_pos this]
    rfl
/-! ### Cuts aS9 facts; perms -/
theorem I4 {α : Type} {l l' : List α} (h : ∀ p : α → Bool, l.countP p = l'.countP p) : l.Perm l' := by
  classical
  refine List.perm_iff_count.2 fun a => ?_
  simpa [List.count] using h (· == a)
theorem pm1 {α : Type} (l : List α) (a b c : α) : (a :: b :: (l ++ [c])).Perm (l ++ [a, b, c]) := I4 fun p => by simp only [List.countP_append, List.countP_cons, List.countP_nil]; omega
theorem pm2 {α : Type} (l : List α) (a b c : α) : (l ++ [a, b, c]).Perm (b :: (l ++ [a, c])) := I4 fun p => by simp only [List.countP_append, List.countP_cons, List.countP_nil]; omega
theorem pm3 {α : Type} (l : List α) (a b c : α) : (a :: (l ++ [b, c])).Perm (l ++ [a, b, c]) := I4 fun p => by simp only [List.countP_append, List.countP_cons, List.countP_nil]; omega
theorem pm4 {α : Type} (l : List α) (a b c : α) : (l ++ [a, b, c]).Perm (a :: (l ++ [b, c])) := (pm3 l a b c).symm
theorem pm5 {α : Type} (l : List α) (a b c : α) : (a :: (l ++ [b, c])).Perm (b :: c :: a :: l) := I4 fun p => by simp only [List.countP_append, List.countP_cons, List.countP_nil]; omega
theorem pm6 {α : Type} (l : List α) (a b c : α) : (b :: c :: a :: l).Perm ((a :: l) ++ [b, c]) := I4 fun p => by simp only [List.countP_append, List.countP_cons, List.countP_nil]; omega
theorem pm7 {α : Type} (l : List α) (a b : α) : (a :: (l ++ [b])).Perm (l ++ [a, b]) := I4 fun p => by simp only [List.countP_append, List.countP_cons, List.countP_nil]; omega
theorem aq7 {α : Type} [El α] {A : Option Addr} {p : List α} {ca lo hi : Nat} {w : World} (h : (Row A (rows p)).P w) (hc : p.length ≤ ca) : (Row (cutA A ca lo (El.sz α)) (rows ((p.take hi).drop lo))).P w := by
  refine cut_row h (fun j u hj => ?_) (fun hne => ?_)
  · rw [← kG, ← dH, List.getElem?_drop, List.getElem?_take] at hj
    split at hj
    · exact hj
    cases hj
  rcases Nat.lt_or_ge lo p.length with h | h
  · omega
  have : (p.take hi).drop lo = [] := List.drop_eq_nil_of_le (by rw [List.length_take]; omega); rw [this] at hne; exact absurd rfl hne
theorem wi_cut {α : Type} [El α] {b : Bx} {hp : Hp} {L : List Fact} {A : Option Addr} {p : List α} {ca : Nat} {w : World} (lo hi : Nat) (h : Row A (rows p) ∈ L) (hc : p.length ≤ ca) (hw : WI b w hp L) : WI b w hp (Row (cutA A ca lo (El.sz α)) (rows ((p.take hi).drop lo)) :: L) :=
  N9 hw (aq7 (hw.fs _ h) hc) (fun k hk => ⟨_, h, by
    obtain ⟨ad, e, hb⟩ := cut_fp hk; refine ⟨ad, e, hb, ?_⟩; obtain ⟨_, _, _, hne⟩ := hk; rintro h0
    apply hne
    rw [← kG, ← dH, h0]
    simp⟩)
section
variable {c : Cx} {Q : Exit → Act → World → Prop} {fr : Fr} {hp : Hp} {L : List Fact} {ops : Array Oper} {rest : List Oper}
theorem xU {e : TypeId} {sz n cap : Nat} {A : Option Addr} {xs : List Value} {og : Hp} {x : Exit} (hG : Grow e sz A n cap xs og) (k : HQ c Q x fr [] (Row A xs :: L)) : HQ c Q x fr og L := fun a w ha hw => k a w ha (iN hG (by simpa using hw))
theorem vW {α : Type} [El α] {A : Option Addr} {p : List α} {ca : Nat} (lo hi : Nat) (h : Row A (rows p) ∈ L) (hc : p.length ≤ ca) (k : HL c ops Q rest fr hp (Row (cutA A ca lo (El.sz α)) (rows ((p.take hi).drop lo)) :: L)) : HL c ops Q rest fr hp L :=
  fun a w ha hw => k a w ha (wi_cut lo hi h hc hw)
end
/-! ### The rules -/
def MapAt (b : Bx) (hp : Hp) (L : List Fact) (g : Nat) (o : Obj) : Prop := ∀ w, WI b w hp L → w.heap[g]? = some o
section
variable {κ : Type} [DecidableEq κ] {enc : κ → Value} {kt e : TypeId}
theorem sH {b : Bx} {hp : Hp} {L : List Fact} {g : Nat} {o : Obj} (h : (g, o) ∈ hp) : MapAt b hp L g o := fun w hw => hw.own _ h
variable {c : Cx} {Q : Exit → Act → World → Prop} {fr : Fr} {hp : Hp} {L : List Fact} {ops : Array Oper} {rest : List Oper}
variable {d : Tmp} {ty : TypeId} {pos : String} {af : Array Edge}
theorem S9 {P : Program} {t : TypeId} (K : KeyC P kt enc) (ht : P.underlying t = some (.map kt e)) {g : Nat} {l : List (Ment κ)} {clk : Nat} {k : κ} {w : World} (hb : w.heap[g]? = some (mapO enc l clk)) (ok : Bool) :
    ((getM l k).isSome = true → (Instr.lookup t (.map (some g)) (enc k) ok).run P w = .ok (if ok then .tuple #[(getM l k).getD undef, .bool true] else (getM l k).getD undef) w) ∧
    ∀ z, (zeroValue e).run P w = .ok z w → getM l k = none → (Instr.lookup t (.map (some g)) (enc k) ok).run P w = .ok (if ok then .tuple #[z, .bool false] else z) w := by
  have hf := K.find k l w; have hc := fun b => K.chk b k w; unfold getM
  cases hr : findM k l 0 with
  | none =>
    rw [hr] at hf; refine ⟨fun h => by simp at h, fun z hz _ => ?_⟩
    simp [Instr.lookup, run_underlying ht, MapKept.run_getObj_map (show w.heap[g]? = some (.map _ _) from hb), hc, hf, hz]
  | some p =>
    obtain ⟨i, v⟩ := p; rw [hr] at hf; refine ⟨fun _ => ?_, fun z hz h => by simp at h⟩
    simp [Instr.lookup, run_underlying ht, MapKept.run_getObj_map (show w.heap[g]? = some (.map _ _) from hb), hc, hf]
theorem zM {t : TypeId} {x y : Operand} {g : Nat} {l : List (Ment κ)} {clk : Nat} {k : κ} {v : Value} (K : KeyC c.P kt enc) (hd : Nat.blt d c.n = true) (ht : c.P.underlying t = some (.map kt e)) (hx : ev fr x = some (.map (some g))) (hy : ev fr y = some (enc k)) (hm : MapAt c.b hp L g (mapO enc l clk))
    (hv : getM l k = some v) (kk : HL c ops Q rest ((d, v) :: fr) hp L) : HL c ops Q (⟨some d, .lookup t x y false, ty, pos, af, none⟩ :: rest) fr hp L :=
  l4 _ rfl rfl hd (fun a w ha hw => by
    have := (S9 (k := k) K ht (hm w hw) false).1 (by simp [hv]); simp only [hv, Option.getD_some, Bool.false_eq_true, if_false] at this
    simp only [execOp, ha.ev hx, ha.ev hy, Sem.run_bind, this, Result.andThen_ok, Sem.run_pure]) kk
theorem zL {t : TypeId} {x y : Operand} {g : Nat} {l : List (Ment κ)} {clk : Nat} {k : κ} {v : Value} (K : KeyC c.P kt enc) (hd : Nat.blt d c.n = true) (ht : c.P.underlying t = some (.map kt e)) (hx : ev fr x = some (.map (some g))) (hy : ev fr y = some (enc k)) (hm : MapAt c.b hp L g (mapO enc l clk))
    (hv : getM l k = some v) (kk : HL c ops Q rest ((d, .tuple #[v, .bool true]) :: fr) hp L) : HL c ops Q (⟨some d, .lookup t x y true, ty, pos, af, none⟩ :: rest) fr hp L :=
  l4 _ rfl rfl hd (fun a w ha hw => by
    have := (S9 (k := k) K ht (hm w hw) true).1 (by simp [hv]); simp only [hv, Option.getD_some, if_true] at this
    simp only [execOp, ha.ev hx, ha.ev hy, Sem.run_bind, this, Result.andThen_ok, Sem.run_pure]) kk
theorem xL {t : TypeId} {x y : Operand} {g : Nat} {l : List (Ment κ)} {clk : Nat} {k : κ} {z : Value} (K : KeyC c.P kt enc) (hd : Nat.blt d c.n = true) (ht : c.P.underlying t = some (.map kt e)) (hx : ev fr x = some (.map (some g))) (hy : ev fr y = some (enc k)) (hm : MapAt c.b hp L g (mapO enc l clk))
    (hz : ∀ w, (zeroValue e).run c.P w = .ok z w) (hv : getM l k = none) (kk : HL c ops Q rest ((d, .tuple #[z, .bool false]) :: fr) hp L) : HL c ops Q (⟨some d, .lookup t x y true, ty, pos, af, none⟩ :: rest) fr hp L :=
  l4 _ rfl rfl hd (fun a w ha hw => by
    have := (S9 (k := k) K ht (hm w hw) true).2 z (hz w) hv; simp only [if_true] at this
    simp only [execOp, ha.ev hx, ha.ev hy, Sem.run_bind, this, Result.andThen_ok, Sem.run_pure]) kk
theorem pF {k : κ} : ∀ (l : List (Ment κ)) (i j : Nat) (v : Value), findM k l i = some (j, v) → ∃ m p, j = i + m ∧ l[m]? = some p ∧ p.1 = k ∧ p.2.1 = v
  | [], i, j, v, h => by simp [findM] at h
  | p :: l, i, j, v, h => by
    rw [findM] at h
    split at h
    · rename_i e
      simp only [Option.some.injEq, Prod.mk.injEq] at h; exact ⟨0, p, by omega, rfl, e, h.2⟩
    obtain ⟨m, q, h1, h2, h3⟩ := pF l (i + 1) j v h; exact ⟨m + 1, q, by omega, by simpa using h2, h3⟩
omit [DecidableEq κ] in
theorem nR {l : List (Ment κ)} {i : Nat} {k : κ} {v : Value} {p : Ment κ} (hp : l[i]? = some p) :
    ((l.map (entOf enc)).toArray.modify i fun x => { x with key := enc k, val := v }) = ((l.modify i fun p => (k, v, p.2.2)).map (entOf enc)).toArray := by
  apply Array.ext'
  simp only [Array.toList_modify]
  apply List.ext_getElem?
  intro n; simp only [List.getElem?_modify, List.getElem?_map]
  split
  · cases hl : l[n]? <;> simp [entOf]
  simp
theorem iS {t : TypeId} {x y z : Operand} {g : Nat} {l : List (Ment κ)} {clk : Nat} {k : κ} {v : Value} {hp' : Hp} {o : Op} (K : KeyC c.P kt enc) (ho : o = .mapUpdate t x y z ∨ o = .insert t x y z) (ht : c.P.underlying t = some (.map kt e)) (hx : ev fr x = some (.map (some g))) (hy : ev fr y = some (enc k)) (hz : ev fr z = some v)
    (hpp : hp.Perm ((g, mapO enc l clk) :: hp')) (kk : HL c ops Q rest fr ((g, mapO enc (putM l k v clk) (clkM l k clk)) :: hp') L) : HL c ops Q (⟨none, o, ty, pos, af, none⟩ :: rest) fr hp L :=
  sQ rfl rfl fun a w ha hw => by
    have hw' := hw.perm hpp; have hg := hw'.own (g, mapO enc l clk) (by simp); have hg' : w.heap[g]? = some (.map (l.map (entOf enc)).toArray clk) := hg; have hf := K.find k l w
    have hrun : (Instr.mapUpdate t (.map (some g)) (enc k) v).run c.P w = .ok () { w with heap := w.heap.setIfInBounds g (mapO enc (putM l k v clk) (clkM l k clk)) } := by
      unfold putM clkM
      cases hr : findM k l 0 with
      | none =>
        rw [hr] at hf; simp only [Instr.mapUpdate, Sem.run_bind, run_underlying ht, Result.andThen_ok, MapKept.run_getObj_map hg', K.chk, hf, MapKept.run_setObj_map _ hg']
        have : ((l.map (entOf enc)).toArray.push { key := enc k, val := v, born := clk }) = ((l ++ [(k, v, clk)]).map (entOf enc)).toArray := by
          apply Array.ext'; simp [entOf]
        rw [this]
        rfl
      | some p =>
        obtain ⟨i, u⟩ := p; rw [hr] at hf; obtain ⟨m, q, h1, h2, h3, h4⟩ := pF l 0 i u hr; have e1 : i = m := by omega
        subst e1
        have e2 : (((l.map (entOf enc)).toArray[i]?).map (·.key)).getD (enc k) = enc k := by
          simp [h2, entOf, h3]
        simp only [Instr.mapUpdate, Sem.run_bind, run_underlying ht, Result.andThen_ok, MapKept.run_getObj_map hg', K.chk, hf, e2, K.stays, MapKept.run_setObj_map _ hg', nR h2]
        rfl
    refine ⟨{ w with heap := w.heap.setIfInBounds g (mapO enc (putM l k v clk) (clkM l k clk)) }, _, L, ?_, hw'.write (o' := mapO enc (putM l k v clk) (clkM l k clk)) ⟨rfl, rfl, rfl, by simp, fun j hj hn => by simp only [List.mem_singleton] at hn; simp [Array.getElem?_setIfInBounds_ne (Ne.symm hn)], Nat.le_refl _⟩ ?_, kk⟩
    · rcases ho with rfl | rfl <;> simp only [execOp, ha.ev hx, ha.ev hy, ha.ev hz, Sem.run_bind, hrun, Result.andThen_ok, Sem.run_pure]
    have := z6 hg; simp only at this
    simp [this]
omit [DecidableEq κ] in
theorem nF (enc : κ → Value) {t : TypeId} (hd : Nat.blt d c.n = true) (k : ∀ g, HL c ops Q rest ((d, .map (some g)) :: fr) ((g, mapO enc [] 0) :: hp) L) : HL c ops Q (⟨some d, .makeMap t none, ty, pos, af, none⟩ :: rest) fr hp L :=
  xJ hd k
theorem iH {k : κ} : ∀ (l : List (Ment κ)) (i : Nat), findM k l (i + 1) = (findM k l i).map fun p => (p.1 + 1, p.2)
  | [], i => rfl
  | p :: l, i => by
    simp only [findM]
    split
    · rfl
    exact iH l (i + 1)
theorem aG (p : Ment κ) (l : List (Ment κ)) (k : κ) : getM (p :: l) k = if p.1 = k then some p.2.1 else getM l k := by
  unfold getM; simp only [findM]
  split
  · rfl
  rw [iH]; cases findM k l 0 <;> rfl
theorem aq1 (l : List (Ment κ)) (k k' : κ) (v : Value) (clk : Nat) : getM (putM l k v clk) k' = if k = k' then some v else getM l k' := by
  induction l with
  | nil => simp [putM, findM, aG, getM]
  | cons p l ih =>
    by_cases h : p.1 = k
    · have : putM (p :: l) k v clk = (k, v, p.2.2) :: l := by simp [putM, findM, h]
      rw [this, aG, aG]; simp only [h]
      split <;> rfl
    have : putM (p :: l) k v clk = p :: putM l k v clk := by
      simp only [putM, findM, h, if_false]; rw [iH]
      cases hf : findM k l 0 with
      | none => simp
      | some q => simp
    rw [this, aG, ih, aG]
    split
    · rename_i e
      rw [if_neg (fun e' => h (e.trans e'.symm))]
    rfl
end
end Go.W
end
