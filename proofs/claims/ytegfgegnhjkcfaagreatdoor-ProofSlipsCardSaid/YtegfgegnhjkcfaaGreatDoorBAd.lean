/- Texts of this claim, one behind another. -/
import Derived.Test.YtegfgegnhjkcfaaGreatDoorProg
import Derived.KernelRfl
import Derived.Laws.StructEq
import Derived.Laws.IdiomStrings
import Derived.MapKept
import Derived.Test.YtegfgegnhjkcfaaGreatDoorBAc
set_option linter.unusedVariables false
set_option linter.unusedSimpArgs false
section
namespace Go.Proofs.YtegfgegnhjkcfaaGreatDoor
open Go Go.W
theorem mixed : Tryz.prog.follows .mixedOrders = true := by kernel_rfl
namespace F
abbrev bR : Nat := 3
theorem kF : Tryz.prog.funcs[bR]? = some Tryz.f3 := Tryz.func3
abbrev bj4 : Nat := 4
abbrev kB : Nat := 5
theorem vS : Tryz.prog.funcs[kB]? = some Tryz.f5 := Tryz.func5
theorem tN : Callable Tryz.prog kB := ⟨⟨_, Tryz.func5, by kernel_rfl, by kernel_rfl⟩⟩
abbrev Q7 : Nat := 6
theorem kD : Tryz.prog.funcs[Q7]? = some Tryz.f6 := Tryz.func6
theorem K0 : Callable Tryz.prog Q7 := ⟨⟨_, Tryz.func6, by kernel_rfl, by kernel_rfl⟩⟩
abbrev gV : Nat := 7
theorem tP : Tryz.prog.funcs[gV]? = some Tryz.f7 := Tryz.func7
theorem rU : Callable Tryz.prog gV := ⟨⟨_, Tryz.func7, by kernel_rfl, by kernel_rfl⟩⟩
abbrev gW : Nat := 8
theorem tQ : Tryz.prog.funcs[gW]? = some Tryz.f8 := Tryz.func8
theorem rV : Callable Tryz.prog gW := ⟨⟨_, Tryz.func8, by kernel_rfl, by kernel_rfl⟩⟩
abbrev gO : Nat := 9
theorem tG : Tryz.prog.funcs[gO]? = some Tryz.f9 := Tryz.func9
theorem rM : Callable Tryz.prog gO := ⟨⟨_, Tryz.func9, by kernel_rfl, by kernel_rfl⟩⟩
abbrev gE : Nat := 10
theorem sZ : Tryz.prog.funcs[gE]? = some Tryz.f10 := Tryz.func10
theorem rB : Callable Tryz.prog gE := ⟨⟨_, Tryz.func10, by kernel_rfl, by kernel_rfl⟩⟩
abbrev gX : Nat := 11
theorem tR : Tryz.prog.funcs[gX]? = some Tryz.f11 := Tryz.func11
theorem Y5 : Callable Tryz.prog gX := ⟨⟨_, Tryz.func11, by kernel_rfl, by kernel_rfl⟩⟩
abbrev gU : Nat := 12
theorem tO : Tryz.prog.funcs[gU]? = some Tryz.f12 := Tryz.func12
theorem rT : Callable Tryz.prog gU := ⟨⟨_, Tryz.func12, by kernel_rfl, by kernel_rfl⟩⟩
abbrev vV : Nat := 13
theorem ax2 : Tryz.prog.funcs[vV]? = some Tryz.f13 := Tryz.func13
theorem kG : Callable Tryz.prog vV := ⟨⟨_, Tryz.func13, by kernel_rfl, by kernel_rfl⟩⟩
abbrev Y3 : Nat := 14
theorem lJ : Tryz.prog.funcs[Y3]? = some Tryz.f14 := Tryz.func14
theorem tI : Callable Tryz.prog Y3 := ⟨⟨_, Tryz.func14, by kernel_rfl, by kernel_rfl⟩⟩
abbrev jN : Nat := 15
theorem vC : Tryz.prog.funcs[jN]? = some Tryz.f15 := Tryz.func15
theorem tA : Callable Tryz.prog jN := ⟨⟨_, Tryz.func15, by kernel_rfl, by kernel_rfl⟩⟩
abbrev Z9 : Nat := 16
theorem tM : Tryz.prog.funcs[Z9]? = some Tryz.f16 := Tryz.func16
theorem gQ : Callable Tryz.prog Z9 := ⟨⟨_, Tryz.func16, by kernel_rfl, by kernel_rfl⟩⟩
abbrev kC : Nat := 17
theorem vT : Tryz.prog.funcs[kC]? = some Tryz.f17 := Tryz.func17
theorem aK : Callable Tryz.prog kC := ⟨⟨_, Tryz.func17, by kernel_rfl, by kernel_rfl⟩⟩
abbrev kA : Nat := 18
theorem vQ : Tryz.prog.funcs[kA]? = some Tryz.f18 := Tryz.func18
theorem jE : Callable Tryz.prog kA := ⟨⟨_, Tryz.func18, by kernel_rfl, by kernel_rfl⟩⟩
abbrev cW : Nat := 19
theorem vJ : Tryz.prog.funcs[cW]? = some Tryz.f19 := Tryz.func19
theorem tK : Callable Tryz.prog cW := ⟨⟨_, Tryz.func19, by kernel_rfl, by kernel_rfl⟩⟩
abbrev Z7 : Nat := 20
theorem tH : Tryz.prog.funcs[Z7]? = some Tryz.f20 := Tryz.func20
theorem rN : Callable Tryz.prog Z7 := ⟨⟨_, Tryz.func20, by kernel_rfl, by kernel_rfl⟩⟩
abbrev rS : Nat := 21
theorem yZ : Tryz.prog.funcs[rS]? = some Tryz.f21 := Tryz.func21
theorem gR : Callable Tryz.prog rS := ⟨⟨_, Tryz.func21, by kernel_rfl, by kernel_rfl⟩⟩
abbrev nI : Nat := 22
theorem xT : Tryz.prog.funcs[nI]? = some Tryz.f22 := Tryz.func22
theorem lY : Callable Tryz.prog nI := ⟨⟨_, Tryz.func22, by kernel_rfl, by kernel_rfl⟩⟩
abbrev W3 : Nat := 23
theorem rO : Tryz.prog.funcs[W3]? = some Tryz.f23 := Tryz.func23
theorem pS : Callable Tryz.prog W3 := ⟨⟨_, Tryz.func23, by kernel_rfl, by kernel_rfl⟩⟩
abbrev kE : Nat := 24
theorem vU : Tryz.prog.funcs[kE]? = some Tryz.f24 := Tryz.func24
theorem jF : Callable Tryz.prog kE := ⟨⟨_, Tryz.func24, by kernel_rfl, by kernel_rfl⟩⟩
abbrev cV : Nat := 25
theorem vI : Tryz.prog.funcs[cV]? = some Tryz.f25 := Tryz.func25
theorem tJ : Callable Tryz.prog cV := ⟨⟨_, Tryz.func25, by kernel_rfl, by kernel_rfl⟩⟩
abbrev aM : Nat := 26
theorem pU : Tryz.prog.funcs[aM]? = some Tryz.f26 := Tryz.func26
theorem nK : Callable Tryz.prog aM := ⟨⟨_, Tryz.func26, by kernel_rfl, by kernel_rfl⟩⟩
abbrev kI : Nat := 27
theorem vX : Tryz.prog.funcs[kI]? = some Tryz.f27 := Tryz.func27
theorem jH : Callable Tryz.prog kI := ⟨⟨_, Tryz.func27, by kernel_rfl, by kernel_rfl⟩⟩
abbrev aO : Nat := 28
theorem pX : Tryz.prog.funcs[aO]? = some Tryz.f28 := Tryz.func28
theorem nM : Callable Tryz.prog aO := ⟨⟨_, Tryz.func28, by kernel_rfl, by kernel_rfl⟩⟩
abbrev kH : Nat := 29
theorem vW : Tryz.prog.funcs[kH]? = some Tryz.f29 := Tryz.func29
theorem jG : Callable Tryz.prog kH := ⟨⟨_, Tryz.func29, by kernel_rfl, by kernel_rfl⟩⟩
abbrev gY : Nat := 30
theorem tS : Tryz.prog.funcs[gY]? = some Tryz.f30 := Tryz.func30
theorem Y6 : Callable Tryz.prog gY := ⟨⟨_, Tryz.func30, by kernel_rfl, by kernel_rfl⟩⟩
abbrev U2 : Nat := 31
theorem kZ : Tryz.prog.funcs[U2]? = some Tryz.f31 := Tryz.func31
theorem G4 : Callable Tryz.prog U2 := ⟨⟨_, Tryz.func31, by kernel_rfl, by kernel_rfl⟩⟩
abbrev A9 : Nat := 32
theorem S1 : Tryz.prog.funcs[A9]? = some Tryz.f32 := Tryz.func32
theorem u6 : Callable Tryz.prog A9 := ⟨⟨_, Tryz.func32, by kernel_rfl, by kernel_rfl⟩⟩
abbrev cH : Nat := 33
theorem qU : Tryz.prog.funcs[cH]? = some Tryz.f33 := Tryz.func33
theorem dD : Callable Tryz.prog cH := ⟨⟨_, Tryz.func33, by kernel_rfl, by kernel_rfl⟩⟩
abbrev B0 : Nat := 34
theorem K6 : Tryz.prog.funcs[B0]? = some Tryz.f34 := Tryz.func34
theorem J8 : Callable Tryz.prog B0 := ⟨⟨_, Tryz.func34, by kernel_rfl, by kernel_rfl⟩⟩
abbrev M0 : Nat := 35
theorem gD : Tryz.prog.funcs[M0]? = some Tryz.f35 := Tryz.func35
theorem dK : Callable Tryz.prog M0 := ⟨⟨_, Tryz.func35, by kernel_rfl, by kernel_rfl⟩⟩
abbrev Q2 : Nat := 36
theorem jQ : Tryz.prog.funcs[Q2]? = some Tryz.f36 := Tryz.func36
theorem iP : Callable Tryz.prog Q2 := ⟨⟨_, Tryz.func36, by kernel_rfl, by kernel_rfl⟩⟩
abbrev cM : Nat := 37
theorem qZ : Tryz.prog.funcs[cM]? = some Tryz.f37 := Tryz.func37
theorem pK : Callable Tryz.prog cM := ⟨⟨_, Tryz.func37, by kernel_rfl, by kernel_rfl⟩⟩
abbrev aJ : Nat := 38
theorem pR : Tryz.prog.funcs[aJ]? = some Tryz.f38 := Tryz.func38
theorem bM : Callable Tryz.prog aJ := ⟨⟨_, Tryz.func38, by kernel_rfl, by kernel_rfl⟩⟩
abbrev jU : Nat := 39
theorem vG : Tryz.prog.funcs[jU]? = some Tryz.f39 := Tryz.func39
theorem tC : Callable Tryz.prog jU := ⟨⟨_, Tryz.func39, by kernel_rfl, by kernel_rfl⟩⟩
abbrev nH : Nat := 40
theorem xS : Tryz.prog.funcs[nH]? = some Tryz.f40 := Tryz.func40
theorem vR : Callable Tryz.prog nH := ⟨⟨_, Tryz.func40, by kernel_rfl, by kernel_rfl⟩⟩
abbrev gP : Nat := 41
theorem tL : Tryz.prog.funcs[gP]? = some Tryz.f41 := Tryz.func41
theorem E7 : Callable Tryz.prog gP := ⟨⟨_, Tryz.func41, by kernel_rfl, by kernel_rfl⟩⟩
abbrev jW : Nat := 42
theorem vH : Tryz.prog.funcs[jW]? = some Tryz.f42 := Tryz.func42
theorem jD : Callable Tryz.prog jW := ⟨⟨_, Tryz.func42, by kernel_rfl, by kernel_rfl⟩⟩
abbrev cT : Nat := 43
theorem rH : Tryz.prog.funcs[cT]? = some Tryz.f43 := Tryz.func43
theorem pN : Callable Tryz.prog cT := ⟨⟨_, Tryz.func43, by kernel_rfl, by kernel_rfl⟩⟩
abbrev gN : Nat := 44
theorem tF : Tryz.prog.funcs[gN]? = some Tryz.f44 := Tryz.func44
theorem rL : Callable Tryz.prog gN := ⟨⟨_, Tryz.func44, by kernel_rfl, by kernel_rfl⟩⟩
abbrev W0 : Nat := 45
theorem rG : Tryz.prog.funcs[W0]? = some Tryz.f45 := Tryz.func45
theorem dH : Callable Tryz.prog W0 := ⟨⟨_, Tryz.func45, by kernel_rfl, by kernel_rfl⟩⟩
abbrev Q1 : Nat := 46
theorem jP : Tryz.prog.funcs[Q1]? = some Tryz.f46 := Tryz.func46
theorem V0 : Callable Tryz.prog Q1 := ⟨⟨_, Tryz.func46, by kernel_rfl, by kernel_rfl⟩⟩
abbrev I5 : Nat := 47
theorem cJ : Tryz.prog.funcs[I5]? = some Tryz.f47 := Tryz.func47
theorem M5 : Callable Tryz.prog I5 := ⟨⟨_, Tryz.func47, by kernel_rfl, by kernel_rfl⟩⟩
abbrev aN : Nat := 48
theorem pW : Tryz.prog.funcs[aN]? = some Tryz.f48 := Tryz.func48
theorem nL : Callable Tryz.prog aN := ⟨⟨_, Tryz.func48, by kernel_rfl, by kernel_rfl⟩⟩
abbrev cZ : Nat := 49
theorem rW : Tryz.prog.funcs[cZ]? = some Tryz.f49 := Tryz.func49
theorem pV : Callable Tryz.prog cZ := ⟨⟨_, Tryz.func49, by kernel_rfl, by kernel_rfl⟩⟩
abbrev U4 : Nat := 50
theorem lD : Tryz.prog.funcs[U4]? = some Tryz.f50 := Tryz.func50
theorem Y2 : Callable Tryz.prog U4 := ⟨⟨_, Tryz.func50, by kernel_rfl, by kernel_rfl⟩⟩
abbrev u7 : Nat := 51
theorem H9 : Tryz.prog.funcs[u7]? = some Tryz.f51 := Tryz.func51
theorem U0 : Callable Tryz.prog u7 := ⟨⟨_, Tryz.func51, by kernel_rfl, by kernel_rfl⟩⟩
abbrev H7 : Nat := 52
theorem bU : Tryz.prog.funcs[H7]? = some Tryz.f52 := Tryz.func52
theorem aQ : Callable Tryz.prog H7 := ⟨⟨_, Tryz.func52, by kernel_rfl, by kernel_rfl⟩⟩
abbrev cL : Nat := 53
theorem qY : Tryz.prog.funcs[cL]? = some Tryz.f53 := Tryz.func53
theorem dF : Callable Tryz.prog cL := ⟨⟨_, Tryz.func53, by kernel_rfl, by kernel_rfl⟩⟩
abbrev U1 : Nat := 54
theorem kX : Tryz.prog.funcs[U1]? = some Tryz.f54 := Tryz.func54
theorem X9 : Callable Tryz.prog U1 := ⟨⟨_, Tryz.func54, by kernel_rfl, by kernel_rfl⟩⟩
abbrev G5 : Nat := 55
theorem S4 : Tryz.prog.funcs[G5]? = some Tryz.f55 := Tryz.func55
theorem C2 : Callable Tryz.prog G5 := ⟨⟨_, Tryz.func55, by kernel_rfl, by kernel_rfl⟩⟩
abbrev U3 : Nat := 56
theorem lA : Tryz.prog.funcs[U3]? = some Tryz.f56 := Tryz.func56
theorem Y0 : Callable Tryz.prog U3 := ⟨⟨_, Tryz.func56, by kernel_rfl, by kernel_rfl⟩⟩
abbrev N9 : Nat := 57
theorem iO : Tryz.prog.funcs[N9]? = some Tryz.f57 := Tryz.func57
theorem gG : Callable Tryz.prog N9 := ⟨⟨_, Tryz.func57, by kernel_rfl, by kernel_rfl⟩⟩
abbrev cN : Nat := 58
theorem rA : Tryz.prog.funcs[cN]? = some Tryz.f58 := Tryz.func58
theorem dG : Callable Tryz.prog cN := ⟨⟨_, Tryz.func58, by kernel_rfl, by kernel_rfl⟩⟩
abbrev Q3 : Nat := 59
theorem jT : Tryz.prog.funcs[Q3]? = some Tryz.f59 := Tryz.func59
theorem iQ : Callable Tryz.prog Q3 := ⟨⟨_, Tryz.func59, by kernel_rfl, by kernel_rfl⟩⟩
abbrev gJ : Nat := 60
theorem tE : Tryz.prog.funcs[gJ]? = some Tryz.f60 := Tryz.func60
theorem rK : Callable Tryz.prog gJ := ⟨⟨_, Tryz.func60, by kernel_rfl, by kernel_rfl⟩⟩
abbrev W1 : Nat := 61
theorem rJ : Tryz.prog.funcs[W1]? = some Tryz.f61 := Tryz.func61
theorem L6 : Callable Tryz.prog W1 := ⟨⟨_, Tryz.func61, by kernel_rfl, by kernel_rfl⟩⟩
abbrev O3 : Nat := 62
theorem iR : Tryz.prog.funcs[O3]? = some Tryz.f62 := Tryz.func62
theorem I9 : Callable Tryz.prog O3 := ⟨⟨_, Tryz.func62, by kernel_rfl, by kernel_rfl⟩⟩
abbrev gI : Nat := 63
theorem tD : Tryz.prog.funcs[gI]? = some Tryz.f63 := Tryz.func63
theorem rI : Callable Tryz.prog gI := ⟨⟨_, Tryz.func63, by kernel_rfl, by kernel_rfl⟩⟩
abbrev w8 : Nat := 64
theorem gL : Tryz.prog.funcs[w8]? = some Tryz.f64 := Tryz.func64
theorem dM : Callable Tryz.prog w8 := ⟨⟨_, Tryz.func64, by kernel_rfl, by kernel_rfl⟩⟩
abbrev O1 : Nat := 65
theorem mX : Tryz.prog.funcs[O1]? = some Tryz.f65 := Tryz.func65
theorem lC : Callable Tryz.prog O1 := ⟨⟨_, Tryz.func65, by kernel_rfl, by kernel_rfl⟩⟩
abbrev J6 : Nat := 66
theorem jS : Tryz.prog.funcs[J6]? = some Tryz.f66 := Tryz.func66
theorem V1 : Callable Tryz.prog J6 := ⟨⟨_, Tryz.func66, by kernel_rfl, by kernel_rfl⟩⟩
abbrev I6 : Nat := 67
theorem cK : Tryz.prog.funcs[I6]? = some Tryz.f67 := Tryz.func67
theorem bF : Callable Tryz.prog I6 := ⟨⟨_, Tryz.func67, by kernel_rfl, by kernel_rfl⟩⟩
abbrev N6 : Nat := 68
theorem iM : Tryz.prog.funcs[N6]? = some Tryz.f68 := Tryz.func68
theorem dZ : Callable Tryz.prog N6 := ⟨⟨_, Tryz.func68, by kernel_rfl, by kernel_rfl⟩⟩
abbrev N4 : Nat := 69
theorem iK : Tryz.prog.funcs[N4]? = some Tryz.f69 := Tryz.func69
theorem dW : Callable Tryz.prog N4 := ⟨⟨_, Tryz.func69, by kernel_rfl, by kernel_rfl⟩⟩
abbrev N3 : Nat := 70
theorem iJ : Tryz.prog.funcs[N3]? = some Tryz.f70 := Tryz.func70
theorem dS : Callable Tryz.prog N3 := ⟨⟨_, Tryz.func70, by kernel_rfl, by kernel_rfl⟩⟩
abbrev N2 : Nat := 71
theorem iI : Tryz.prog.funcs[N2]? = some Tryz.f71 := Tryz.func71
theorem dR : Callable Tryz.prog N2 := ⟨⟨_, Tryz.func71, by kernel_rfl, by kernel_rfl⟩⟩
abbrev B9 : Nat := 73
theorem U6 : Tryz.prog.funcs[B9]? = some Tryz.f73 := Tryz.func73
theorem S6 : Callable Tryz.prog B9 := ⟨⟨_, Tryz.func73, by kernel_rfl, by kernel_rfl⟩⟩
abbrev dU : Nat := 74
theorem sY : Tryz.prog.funcs[dU]? = some Tryz.f74 := Tryz.func74
theorem dT : Callable Tryz.prog dU := ⟨⟨_, Tryz.func74, by kernel_rfl, by kernel_rfl⟩⟩
abbrev N1 : Nat := 75
theorem iH : Tryz.prog.funcs[N1]? = some Tryz.f75 := Tryz.func75
theorem dQ : Callable Tryz.prog N1 := ⟨⟨_, Tryz.func75, by kernel_rfl, by kernel_rfl⟩⟩
abbrev N8 : Nat := 76
theorem iN : Tryz.prog.funcs[N8]? = some Tryz.f76 := Tryz.func76
theorem gF : Callable Tryz.prog N8 := ⟨⟨_, Tryz.func76, by kernel_rfl, by kernel_rfl⟩⟩
abbrev K9 : Nat := 77
theorem pQ : Tryz.prog.funcs[K9]? = some Tryz.f77 := Tryz.func77
theorem nB : Callable Tryz.prog K9 := ⟨⟨_, Tryz.func77, by kernel_rfl, by kernel_rfl⟩⟩
abbrev K8 : Nat := 78
theorem pP : Tryz.prog.funcs[K8]? = some Tryz.f78 := Tryz.func78
theorem nA : Callable Tryz.prog K8 := ⟨⟨_, Tryz.func78, by kernel_rfl, by kernel_rfl⟩⟩
abbrev K7 : Nat := 79
theorem pO : Tryz.prog.funcs[K7]? = some Tryz.f79 := Tryz.func79
theorem mZ : Callable Tryz.prog K7 := ⟨⟨_, Tryz.func79, by kernel_rfl, by kernel_rfl⟩⟩
abbrev kO : Nat := 80
theorem wO : Tryz.prog.funcs[kO]? = some Tryz.f80 := Tryz.func80
theorem jI : Callable Tryz.prog kO := ⟨⟨_, Tryz.func80, by kernel_rfl, by kernel_rfl⟩⟩
abbrev U8 : Nat := 81
theorem mL : Tryz.prog.funcs[U8]? = some Tryz.f81 := Tryz.func81
theorem G8 : Callable Tryz.prog U8 := ⟨⟨_, Tryz.func81, by kernel_rfl, by kernel_rfl⟩⟩
abbrev L9 : Nat := 82
theorem dY : Tryz.prog.funcs[L9]? = some Tryz.f82 := Tryz.func82
theorem dJ : Callable Tryz.prog L9 := ⟨⟨_, Tryz.func82, by kernel_rfl, by kernel_rfl⟩⟩
abbrev B7 : Nat := 83
theorem gK : Tryz.prog.funcs[B7]? = some Tryz.f83 := Tryz.func83
theorem dL : Callable Tryz.prog B7 := ⟨⟨_, Tryz.func83, by kernel_rfl, by kernel_rfl⟩⟩
abbrev N5 : Nat := 84
theorem iL : Tryz.prog.funcs[N5]? = some Tryz.f84 := Tryz.func84
theorem dX : Callable Tryz.prog N5 := ⟨⟨_, Tryz.func84, by kernel_rfl, by kernel_rfl⟩⟩
abbrev y9 : Nat := 85
theorem P2 : Tryz.prog.funcs[y9]? = some Tryz.f85 := Tryz.func85
theorem M8 : Callable Tryz.prog y9 := ⟨⟨_, Tryz.func85, by kernel_rfl, by kernel_rfl⟩⟩
abbrev y8 : Nat := 86
theorem P1 : Tryz.prog.funcs[y8]? = some Tryz.f86 := Tryz.func86
theorem M7 : Callable Tryz.prog y8 := ⟨⟨_, Tryz.func86, by kernel_rfl, by kernel_rfl⟩⟩
abbrev G7 : Nat := 87
theorem aP : Tryz.prog.funcs[G7]? = some Tryz.f87 := Tryz.func87
theorem Z1 : Callable Tryz.prog G7 := ⟨⟨_, Tryz.func87, by kernel_rfl, by kernel_rfl⟩⟩
abbrev sB : Nat := 88
abbrev pD : Nat := 89
abbrev qJ : Nat := 90
abbrev E0 : Nat := 91
theorem Y7 : Tryz.prog.funcs[E0]? = some Tryz.f91 := Tryz.func91
theorem W4 : Callable Tryz.prog E0 := ⟨⟨_, Tryz.func91, by kernel_rfl, by kernel_rfl⟩⟩
abbrev y7 : Nat := 92
theorem P0 : Tryz.prog.funcs[y7]? = some Tryz.f92 := Tryz.func92
theorem C5 : Callable Tryz.prog y7 := ⟨⟨_, Tryz.func92, by kernel_rfl, by kernel_rfl⟩⟩
abbrev cG : Nat := 93
theorem qT : Tryz.prog.funcs[cG]? = some Tryz.f93 := Tryz.func93
theorem dC : Callable Tryz.prog cG := ⟨⟨_, Tryz.func93, by kernel_rfl, by kernel_rfl⟩⟩
abbrev cI : Nat := 94
theorem qV : Tryz.prog.funcs[cI]? = some Tryz.f94 := Tryz.func94
theorem dE : Callable Tryz.prog cI := ⟨⟨_, Tryz.func94, by kernel_rfl, by kernel_rfl⟩⟩
abbrev aU : Nat := 95
theorem qB : Tryz.prog.funcs[aU]? = some Tryz.f95 := Tryz.func95
theorem bY : Callable Tryz.prog aU := ⟨⟨_, Tryz.func95, by kernel_rfl, by kernel_rfl⟩⟩
abbrev M2 : Nat := 96
theorem hU : Tryz.prog.funcs[M2]? = some Tryz.f96 := Tryz.func96
theorem dN : Callable Tryz.prog M2 := ⟨⟨_, Tryz.func96, by kernel_rfl, by kernel_rfl⟩⟩
abbrev sC : Nat := 97
abbrev bj3 : Nat := 98
abbrev sD : Nat := 99
abbrev pC : Nat := 100
abbrev uJ : Nat := 101
abbrev B8 : Nat := 102
theorem U5 : Tryz.prog.funcs[B8]? = some Tryz.f102 := Tryz.func102
theorem S5 : Callable Tryz.prog B8 := ⟨⟨_, Tryz.func102, by kernel_rfl, by kernel_rfl⟩⟩
abbrev xA : Nat := 104
abbrev wW : Nat := 105
abbrev I3 : Nat := 106
theorem cF : Tryz.prog.funcs[I3]? = some Tryz.f106 := Tryz.func106
theorem aZ : Callable Tryz.prog I3 := ⟨⟨_, Tryz.func106, by kernel_rfl, by kernel_rfl⟩⟩
abbrev H6 : Nat := 107
theorem aY : Tryz.prog.funcs[H6]? = some Tryz.f107 := Tryz.func107
theorem aD : Callable Tryz.prog H6 := ⟨⟨_, Tryz.func107, by kernel_rfl, by kernel_rfl⟩⟩
abbrev G2 : Nat := 108
theorem aC : Tryz.prog.funcs[G2]? = some Tryz.f108 := Tryz.func108
theorem Y9 : Callable Tryz.prog G2 := ⟨⟨_, Tryz.func108, by kernel_rfl, by kernel_rfl⟩⟩
abbrev uC : Nat := 109
abbrev sX : Nat := 110
abbrev H8 : Nat := 111
theorem bV : Tryz.prog.funcs[H8]? = some Tryz.f111 := Tryz.func111
theorem aR : Callable Tryz.prog H8 := ⟨⟨_, Tryz.func111, by kernel_rfl, by kernel_rfl⟩⟩
abbrev bj2 : Nat := 112
abbrev Q9 : Nat := 113
theorem kN : Tryz.prog.funcs[Q9]? = some Tryz.f113 := Tryz.func113
theorem V3 : Callable Tryz.prog Q9 := ⟨⟨_, Tryz.func113, by kernel_rfl, by kernel_rfl⟩⟩
abbrev sV : Nat := 114
abbrev sU : Nat := 115
abbrev tT : Nat := 117
abbrev gZ : Nat := 118
abbrev C6 : Nat := 119
theorem V8 : Tryz.prog.funcs[C6]? = some Tryz.f119 := Tryz.func119
theorem H0 : Callable Tryz.prog C6 := ⟨⟨_, Tryz.func119, by kernel_rfl, by kernel_rfl⟩⟩
abbrev mQ : Nat := 120
abbrev xB : Nat := 121
abbrev jA : Nat := 122
abbrev sW : Nat := 123
abbrev yJ : Nat := 124
abbrev yP : Nat := 125
abbrev zR : Nat := 126
abbrev xC : Nat := 127
abbrev mR : Nat := 128
abbrev iZ : Nat := 129
abbrev zQ : Nat := 130
abbrev uX : Nat := 131
abbrev sE : Nat := 132
abbrev sA : Nat := 133
abbrev errors_New : Nat := 134
abbrev uW : Nat := 135
abbrev vZ : Nat := 136
abbrev pB : Nat := 137
abbrev cj9 : Nat := 169
end F
namespace T
abbrev int64 : Nat := 2
abbrev int : Nat := 3
theorem nY : Tryz.prog.underlying int = some (.int .i64) := Tryz.underlying3
theorem D8 : Sz Tryz.prog int 1 := by unfold Sz; kernel_rfl
theorem a6 : NoR Tryz.prog int := ⟨_, Tryz.underlying3, rfl⟩
abbrev bool : Nat := 4
theorem u_bool : Tryz.prog.underlying bool = some (.bool) := Tryz.underlying4
theorem kU : Sz Tryz.prog bool 1 := by unfold Sz; kernel_rfl
theorem cA : NoR Tryz.prog bool := ⟨_, Tryz.underlying4, rfl⟩
abbrev u8 : Nat := 5
theorem uY : Tryz.prog.underlying u8 = some (.int .u8) := Tryz.underlying5
theorem sz_u8 : Sz Tryz.prog u8 1 := by unfold Sz; kernel_rfl
theorem aj3 : NoR Tryz.prog u8 := ⟨_, Tryz.underlying5, rfl⟩
abbrev string : Nat := 9
theorem i2 : Tryz.prog.underlying string = some (.string) := Tryz.underlying9
theorem v8 : Sz Tryz.prog string 1 := by unfold Sz; kernel_rfl
theorem j1 : NoR Tryz.prog string := ⟨_, Tryz.underlying9, rfl⟩
abbrev interface : Nat := 20
abbrev int32 : Nat := 21
abbrev M3 : Nat := 22
theorem j3 : Tryz.prog.underlying M3 = some (.slice 43) := Tryz.underlying22
theorem R4 : Sz Tryz.prog M3 1 := by unfold Sz; kernel_rfl
theorem d7 : NoR Tryz.prog M3 := ⟨_, Tryz.underlying22, rfl⟩
theorem E1 : ElT Tryz.prog M3 43 3 32 := ElT.of (z := (.agg #[(.int .i64 0), (.int .i64 0), (.string ⟨#[]⟩)])) Tryz.underlying22 (by kernel_rfl) rfl (by decide)
abbrev ints : Nat := 23
theorem L8 : Tryz.prog.underlying ints = some (.slice 3) := Tryz.underlying23
theorem hX : Sz Tryz.prog ints 1 := by unfold Sz; kernel_rfl
theorem A4 : NoR Tryz.prog ints := ⟨_, Tryz.underlying23, rfl⟩
theorem wK : ElT Tryz.prog ints 3 1 8 := ElT.of (z := (.int .i64 0)) Tryz.underlying23 (by kernel_rfl) rfl (by decide)
abbrev yK : Nat := 26
abbrev wV : Nat := 29
theorem N0 : Tryz.prog.underlying wV = some (.slice 22) := Tryz.underlying29
abbrev strs : Nat := 30
theorem u5 : Tryz.prog.underlying strs = some (.slice 9) := Tryz.underlying30
theorem cE : Sz Tryz.prog strs 1 := by unfold Sz; kernel_rfl
theorem i9 : NoR Tryz.prog strs := ⟨_, Tryz.underlying30, rfl⟩
theorem iE : ElT Tryz.prog strs 9 1 16 := ElT.of (z := (.string ⟨#[]⟩)) Tryz.underlying30 (by kernel_rfl) rfl (by decide)
abbrev nW : Nat := 31
theorem J5 : Sz Tryz.prog nW 1 := by unfold Sz; kernel_rfl
theorem E9 : NoR Tryz.prog nW := ⟨_, Tryz.underlying31, rfl⟩
abbrev qN : Nat := 36
theorem B5 : Tryz.prog.underlying qN = some (.slice 5) := Tryz.underlying36
theorem yO : Sz Tryz.prog qN 1 := by unfold Sz; kernel_rfl
theorem P4 : NoR Tryz.prog qN := ⟨_, Tryz.underlying36, rfl⟩
abbrev cB : Nat := 43
theorem c7 : Sz Tryz.prog cB 3 := by unfold Sz; kernel_rfl
theorem j2 : IsR Tryz.prog cB := ⟨_, Tryz.underlying43, rfl⟩
abbrev pages : Nat := 55
theorem V6 : Tryz.prog.underlying pages = some (.slice 30) := Tryz.underlying55
abbrev yF : Nat := 58
theorem q6 : Sz Tryz.prog yF 2 := by unfold Sz; kernel_rfl
theorem w6 : IsR Tryz.prog yF := ⟨_, Tryz.underlying58, rfl⟩
abbrev u64 : Nat := 63
theorem bj9 : Tryz.prog.underlying u64 = some (.int .u64) := Tryz.underlying63
theorem vA : Sz Tryz.prog u64 1 := by unfold Sz; kernel_rfl
theorem p6 : NoR Tryz.prog u64 := ⟨_, Tryz.underlying63, rfl⟩
abbrev kT : Nat := 65
abbrev aB : Nat := 69
theorem dP : Sz Tryz.prog aB 1 := by unfold Sz; kernel_rfl
theorem G9 : NoR Tryz.prog aB := ⟨_, Tryz.underlying69, rfl⟩
abbrev pI : Nat := 71
abbrev error : Nat := 74
abbrev cx7 : Nat := 79
abbrev proof_slip : Nat := 81
abbrev lB : Nat := 83
abbrev uint : Nat := 101
abbrev P_uint8 : Nat := 103
abbrev xJ : Nat := 105
abbrev P_proof_press : Nat := 111
abbrev Z6 : Nat := 113
abbrev L0 : Nat := 114
theorem s8 : Tryz.prog.underlying L0 = some (.map 3 116) := Tryz.underlying114
abbrev qM : Nat := 116
abbrev D4 : Nat := 117
theorem G1 : Tryz.prog.underlying D4 = some (.map 121 120) := Tryz.underlying117
theorem aX : Sz Tryz.prog D4 1 := by unfold Sz; kernel_rfl
theorem l7 : NoR Tryz.prog D4 := ⟨_, Tryz.underlying117, rfl⟩
abbrev E8 : Nat := 118
theorem X2 : Sz Tryz.prog E8 1 := by unfold Sz; kernel_rfl
theorem j6 : NoR Tryz.prog E8 := ⟨_, Tryz.underlying118, rfl⟩
abbrev s7 : Nat := 120
theorem i7 : Sz Tryz.prog s7 2 := by unfold Sz; kernel_rfl
theorem j7 : IsR Tryz.prog s7 := ⟨_, Tryz.underlying120, rfl⟩
abbrev K5 : Nat := 121
theorem bq0 : Tryz.prog.underlying K5 = some (.array 2 3) := Tryz.underlying121
theorem H3 : Sz Tryz.prog K5 2 := by unfold Sz; kernel_rfl
theorem G3 : IsR Tryz.prog K5 := ⟨_, Tryz.underlying121, rfl⟩
abbrev mP : Nat := 123
theorem M9 : Tryz.prog.underlying mP = some (.slice 120) := Tryz.underlying123
theorem H1 : ElT Tryz.prog mP 120 2 32 := ElT.of (z := (.agg #[(.int .i64 0), (.slice none 0 0)])) Tryz.underlying123 (by kernel_rfl) rfl (by decide)
abbrev nN : Nat := 126
abbrev U7 : Nat := 127
theorem jL : Sz Tryz.prog U7 1 := by unfold Sz; kernel_rfl
theorem s5 : NoR Tryz.prog U7 := ⟨_, Tryz.underlying127, rfl⟩
abbrev sH : Nat := 142
abbrev A24_uint8 : Nat := 144
abbrev A20_uint64 : Nat := 152
abbrev uint32 : Nat := 153
abbrev A65_uint8 : Nat := 154
abbrev B6 : Nat := 158
theorem X0 : Tryz.prog.underlying B6 = some (.array 256 4) := Tryz.underlying158
theorem E4 : Sz Tryz.prog B6 256 := by unfold Sz; kernel_rfl
theorem S2 : IsR Tryz.prog B6 := ⟨_, Tryz.underlying158, rfl⟩
abbrev zK : Nat := 162
abbrev strconv_Error : Nat := 170
abbrev zL : Nat := 173
abbrev A32_uint8 : Nat := 176
abbrev A64_uint8 : Nat := 177
abbrev aq1 : Nat := 185
abbrev A256_uint8 : Nat := 187
abbrev aj5 : Nat := 189
abbrev yI : Nat := 190
abbrev yH : Nat := 193
abbrev zD : Nat := 195
theorem d9 (p : Addr) (w : World) : (Instr.fieldAt 43 (.pointer (some p)) 0).run Tryz.prog w = .ok (.pointer (some (p.add 0))) w := by kernel_rfl
theorem d8 (p : Addr) (w : World) : (Instr.fieldAt 43 (.pointer (some p)) 1).run Tryz.prog w = .ok (.pointer (some (p.add 1))) w := by kernel_rfl
theorem k6 (p : Addr) (w : World) : (Instr.fieldAt 43 (.pointer (some p)) 2).run Tryz.prog w = .ok (.pointer (some (p.add 2))) w := by kernel_rfl
theorem B2 (p : Addr) (w : World) : (Instr.fieldAt 65 (.pointer (some p)) 0).run Tryz.prog w = .ok (.pointer (some (p.add 0))) w := by kernel_rfl
theorem s4 (p : Addr) (w : World) : (Instr.fieldAt 65 (.pointer (some p)) 1).run Tryz.prog w = .ok (.pointer (some (p.add 1))) w := by kernel_rfl
theorem i4 (p : Addr) (w : World) : (Instr.fieldAt 65 (.pointer (some p)) 2).run Tryz.prog w = .ok (.pointer (some (p.add 2))) w := by kernel_rfl
theorem D6 (p : Addr) (w : World) : (Instr.fieldAt 71 (.pointer (some p)) 0).run Tryz.prog w = .ok (.pointer (some (p.add 0))) w := by kernel_rfl
theorem y4 (p : Addr) (w : World) : (Instr.fieldAt 71 (.pointer (some p)) 1).run Tryz.prog w = .ok (.pointer (some (p.add 1))) w := by kernel_rfl
theorem D0 (p : Addr) (w : World) : (Instr.fieldAt 81 (.pointer (some p)) 0).run Tryz.prog w = .ok (.pointer (some (p.add 0))) w := by kernel_rfl
theorem k8 (p : Addr) (w : World) : (Instr.fieldAt 81 (.pointer (some p)) 1).run Tryz.prog w = .ok (.pointer (some (p.add 1))) w := by kernel_rfl
theorem l8 (p : Addr) (w : World) : (Instr.fieldAt 83 (.pointer (some p)) 0).run Tryz.prog w = .ok (.pointer (some (p.add 0))) w := by kernel_rfl
theorem v7 (p : Addr) (w : World) : (Instr.fieldAt 83 (.pointer (some p)) 1).run Tryz.prog w = .ok (.pointer (some (p.add 2))) w := by kernel_rfl
theorem p9 (p : Addr) (w : World) : (Instr.fieldAt 113 (.pointer (some p)) 0).run Tryz.prog w = .ok (.pointer (some (p.add 0))) w := by kernel_rfl
theorem p8 (p : Addr) (w : World) : (Instr.fieldAt 113 (.pointer (some p)) 1).run Tryz.prog w = .ok (.pointer (some (p.add 1))) w := by kernel_rfl
theorem u4 (p : Addr) (w : World) : (Instr.fieldAt 120 (.pointer (some p)) 0).run Tryz.prog w = .ok (.pointer (some (p.add 0))) w := by kernel_rfl
theorem u3 (p : Addr) (w : World) : (Instr.fieldAt 120 (.pointer (some p)) 1).run Tryz.prog w = .ok (.pointer (some (p.add 1))) w := by kernel_rfl
theorem sL (x1 : Value) (x2 : Value) (w : World) : (Instr.field 120 (.agg #[x1, x2]) 1).run Tryz.prog w = .ok x2 w := by kernel_rfl
theorem al_int (w : World) : (Instr.alloc 3 true (.tuple #[])).run Tryz.prog w = .ok (.pointer (some ⟨w.heap.size, 0, none⟩)) (w.alloc (.cells #[(.int .i64 0)] 3 (0, 0))) := by kernel_rfl
theorem al_bool (w : World) : (Instr.alloc 4 true (.tuple #[])).run Tryz.prog w = .ok (.pointer (some ⟨w.heap.size, 0, none⟩)) (w.alloc (.cells #[(.bool false)] 4 (0, 0))) := by kernel_rfl
theorem al_ints (w : World) : (Instr.alloc 23 true (.tuple #[])).run Tryz.prog w = .ok (.pointer (some ⟨w.heap.size, 0, none⟩)) (w.alloc (.cells #[(.slice none 0 0)] 23 (0, 0))) := by kernel_rfl
theorem wT (w : World) : (Instr.alloc 31 true (.tuple #[])).run Tryz.prog w = .ok (.pointer (some ⟨w.heap.size, 0, none⟩)) (w.alloc (.cells #[(.int .i64 0)] 31 (0, 0))) := by kernel_rfl
theorem u1 (w : World) : (Instr.alloc 43 true (.tuple #[])).run Tryz.prog w = .ok (.pointer (some ⟨w.heap.size, 0, none⟩)) (w.alloc (.cells #[(.int .i64 0), (.int .i64 0), (.string ⟨#[]⟩)] 43 (0, 0))) := by kernel_rfl
theorem pG (w : World) : (Instr.alloc 58 true (.tuple #[])).run Tryz.prog w = .ok (.pointer (some ⟨w.heap.size, 0, none⟩)) (w.alloc (.cells #[(.int .i64 0), (.int .i64 0)] 58 (0, 0))) := by kernel_rfl
theorem kP (w : World) : (Instr.alloc 71 true (.tuple #[])).run Tryz.prog w = .ok (.pointer (some ⟨w.heap.size, 0, none⟩)) (w.alloc (.cells #[(.pointer none), (.slice none 0 0)] 71 (0, 0))) := by kernel_rfl
theorem cC (w : World) : (Instr.alloc 117 true (.tuple #[])).run Tryz.prog w = .ok (.pointer (some ⟨w.heap.size, 0, none⟩)) (w.alloc (.cells #[(.map none)] 117 (0, 0))) := by kernel_rfl
theorem Y8 (w : World) : (Instr.alloc 118 true (.tuple #[])).run Tryz.prog w = .ok (.pointer (some ⟨w.heap.size, 0, none⟩)) (w.alloc (.cells #[.nilFunc] 118 (0, 0))) := by kernel_rfl
theorem E2 (w : World) : (Instr.alloc 120 true (.tuple #[])).run Tryz.prog w = .ok (.pointer (some ⟨w.heap.size, 0, none⟩)) (w.alloc (.cells #[(.int .i64 0), (.slice none 0 0)] 120 (0, 0))) := by kernel_rfl
theorem bj1 (w : World) : (Instr.alloc 121 true (.tuple #[])).run Tryz.prog w = .ok (.pointer (some ⟨w.heap.size, 0, none⟩)) (w.alloc (.cells #[(.int .i64 0), (.int .i64 0)] 121 (0, 0))) := by kernel_rfl
theorem kQ (w : World) : (Instr.alloc 127 true (.tuple #[])).run Tryz.prog w = .ok (.pointer (some ⟨w.heap.size, 0, none⟩)) (w.alloc (.cells #[.nilFunc] 127 (0, 0))) := by kernel_rfl
theorem V5 (w : World) : (Instr.alloc 158 true (.tuple #[])).run Tryz.prog w = .ok (.pointer (some ⟨w.heap.size, 0, none⟩)) (w.alloc (.cells #[(.bool false), (.bool false), (.bool false), (.bool false), (.bool false), (.bool false), (.bool false), (.bool false), (.bool false), (.bool false), (.bool false), (.bool false), (.bool false), (.bool false), (.bool false), (.bool false), (.bool false), (.bool false), (.bool false), (.bool false), (.bool false), (.bool false), (.bool false), (.bool false), (.bool false), (.bool false), (.bool false), (.bool false), (.bool false), (.bool false), (.bool false), (.bool false), (.bool false), (.bool false), (.bool false), (.bool false), (.bool false), (.bool false), (.bool false), (.bool false), (.bool false), (.bool false), (.bool false), (.bool false), (.bool false), (.bool false), (.bool false), (.bool false), (.bool false), (.bool false), (.bool false), (.bool false), (.bool false), (.bool false), (.bool false), (.bool false), (.bool false), (.bool false), (.bool false), (.bool false), (.bool false), (.bool false), (.bool false), (.bool false), (.bool false), (.bool false), (.bool false), (.bool false), (.bool false), (.bool false), (.bool false), (.bool false), (.bool false), (.bool false), (.bool false), (.bool false), (.bool false), (.bool false), (.bool false), (.bool false), (.bool false), (.bool false), (.bool false), (.bool false), (.bool false), (.bool false), (.bool false), (.bool false), (.bool false), (.bool false), (.bool false), (.bool false), (.bool false), (.bool false), (.bool false), (.bool false), (.bool false), (.bool false), (.bool false), (.bool false), (.bool false), (.bool false), (.bool false), (.bool false), (.bool false), (.bool false), (.bool false), (.bool false), (.bool false), (.bool false), (.bool false), (.bool false), (.bool false), (.bool false), (.bool false), (.bool false), (.bool false), (.bool false), (.bool false), (.bool false), (.bool false), (.bool false), (.bool false), (.bool false), (.bool false), (.bool false), (.bool false), (.bool false), (.bool false), (.bool false), (.bool false), (.bool false), (.bool false), (.bool false), (.bool false), (.bool false), (.bool false), (.bool false), (.bool false), (.bool false), (.bool false), (.bool false), (.bool false), (.bool false), (.bool false), (.bool false), (.bool false), (.bool false), (.bool false), (.bool false), (.bool false), (.bool false), (.bool false), (.bool false), (.bool false), (.bool false), (.bool false), (.bool false), (.bool false), (.bool false), (.bool false), (.bool false), (.bool false), (.bool false), (.bool false), (.bool false), (.bool false), (.bool false), (.bool false), (.bool false), (.bool false), (.bool false), (.bool false), (.bool false), (.bool false), (.bool false), (.bool false), (.bool false), (.bool false), (.bool false), (.bool false), (.bool false), (.bool false), (.bool false), (.bool false), (.bool false), (.bool false), (.bool false), (.bool false), (.bool false), (.bool false), (.bool false), (.bool false), (.bool false), (.bool false), (.bool false), (.bool false), (.bool false), (.bool false), (.bool false), (.bool false), (.bool false), (.bool false), (.bool false), (.bool false), (.bool false), (.bool false), (.bool false), (.bool false), (.bool false), (.bool false), (.bool false), (.bool false), (.bool false), (.bool false), (.bool false), (.bool false), (.bool false), (.bool false), (.bool false), (.bool false), (.bool false), (.bool false), (.bool false), (.bool false), (.bool false), (.bool false), (.bool false), (.bool false), (.bool false), (.bool false), (.bool false), (.bool false), (.bool false), (.bool false), (.bool false), (.bool false), (.bool false), (.bool false), (.bool false), (.bool false), (.bool false), (.bool false), (.bool false), (.bool false), (.bool false), (.bool false), (.bool false), (.bool false), (.bool false), (.bool false), (.bool false), (.bool false), (.bool false), (.bool false), (.bool false)] 158 (0, 0))) := by kernel_rfl
theorem W6  (w : World) : (Instr.build 43 #[]).run Tryz.prog w = .ok (.agg #[(.int .i64 0), (.int .i64 0), (.string ⟨#[]⟩)]) w := by kernel_rfl
theorem tX (x1 : Int) (w : World) : (Instr.build 43 #[(0, (.int .i64 x1))]).run Tryz.prog w = .ok (.agg #[(.int .i64 x1), (.int .i64 0), (.string ⟨#[]⟩)]) w := by kernel_rfl
theorem U9 (x1 : Int) (x2 : Int) (w : World) : (Instr.build 43 #[(0, (.int .i64 x1)), (1, (.int .i64 x2))]).run Tryz.prog w = .ok (.agg #[(.int .i64 x1), (.int .i64 x2), (.string ⟨#[]⟩)]) w := by kernel_rfl
theorem A5 (x1 : Int) (x2 : Int) (x3 : ByteArray) (w : World) : (Instr.build 43 #[(0, (.int .i64 x1)), (1, (.int .i64 x2)), (2, (.string x3))]).run Tryz.prog w = .ok (.agg #[(.int .i64 x1), (.int .i64 x2), (.string x3)]) w := by kernel_rfl
theorem P5  (w : World) : (Instr.build 58 #[]).run Tryz.prog w = .ok (.agg #[(.int .i64 0), (.int .i64 0)]) w := by kernel_rfl
theorem H2 (x1 : Int) (x2 : Int) (w : World) : (Instr.build 58 #[(0, (.int .i64 x1)), (1, (.int .i64 x2))]).run Tryz.prog w = .ok (.agg #[(.int .i64 x1), (.int .i64 x2)]) w := by kernel_rfl
theorem aW (x1 : Option Addr) (x2 : Nat) (x3 : Nat) (x4 : Int) (w : World) : (Instr.build 65 #[(0, (.slice x1 x2 x3)), (2, (.int .u64 x4))]).run Tryz.prog w = .ok (.agg #[(.slice x1 x2 x3), (.int .i64 0), (.int .u64 x4)]) w := by kernel_rfl
theorem qF (x1 : ByteArray) (w : World) : (Instr.build 81 #[(0, (.string x1))]).run Tryz.prog w = .ok (.agg #[(.string x1), (.int .i64 0)]) w := by kernel_rfl
theorem mN (x1 : ByteArray) (x2 : Int) (w : World) : (Instr.build 83 #[(0, (.agg #[(.string x1), (.int .i64 x2)]))]).run Tryz.prog w = .ok (.agg #[(.string x1), (.int .i64 x2), (.slice none 0 0)]) w := by kernel_rfl
theorem qG  (w : World) : (Instr.build 113 #[]).run Tryz.prog w = .ok (.agg #[(.slice none 0 0), (.int .i64 0)]) w := by kernel_rfl
theorem sS  (w : World) : (Instr.build 120 #[]).run Tryz.prog w = .ok (.agg #[(.int .i64 0), (.slice none 0 0)]) w := by kernel_rfl
theorem mO (x1 : Int) (x2 : Option Addr) (x3 : Nat) (x4 : Nat) (w : World) : (Instr.build 120 #[(0, (.int .i64 x1)), (1, (.slice x2 x3 x4))]).run Tryz.prog w = .ok (.agg #[(.int .i64 x1), (.slice x2 x3 x4)]) w := by kernel_rfl
theorem tY (x1 : Int) (x2 : Int) (w : World) : (Instr.build 121 #[(0, (.int .i64 x1)), (1, (.int .i64 x2))]).run Tryz.prog w = .ok (.agg #[(.int .i64 x1), (.int .i64 x2)]) w := by kernel_rfl
theorem qE  (w : World) : (Instr.buildSlice 22 0 #[]).run Tryz.prog w = .ok (.slice (some ⟨w.heap.size, 0, none⟩) 0 0) (w.alloc (.cells #[] 43 (0, 0))) := by kernel_rfl
theorem A6 (x1 : Int) (x2 : Int) (x3 : ByteArray) (w : World) : (Instr.buildSlice 22 1 #[(0, (.agg #[(.int .i64 x1), (.int .i64 x2), (.string x3)]))]).run Tryz.prog w = .ok (.slice (some ⟨w.heap.size, 0, none⟩) 1 1) (w.alloc (.cells #[(.int .i64 x1), (.int .i64 x2), (.string x3)] 43 (0, 0))) := by kernel_rfl
theorem qD (x1 : Int) (x2 : Int) (x3 : ByteArray) (x4 : Int) (x5 : Int) (x6 : ByteArray) (w : World) : (Instr.buildSlice 22 2 #[(0, (.agg #[(.int .i64 x1), (.int .i64 x2), (.string x3)])), (1, (.agg #[(.int .i64 x4), (.int .i64 x5), (.string x6)]))]).run Tryz.prog w = .ok (.slice (some ⟨w.heap.size, 0, none⟩) 2 2) (w.alloc (.cells #[(.int .i64 x1), (.int .i64 x2), (.string x3), (.int .i64 x4), (.int .i64 x5), (.string x6)] 43 (0, 0))) := by kernel_rfl
theorem qC (x1 : Int) (x2 : Int) (x3 : ByteArray) (x4 : Int) (x5 : Int) (x6 : ByteArray) (x7 : Int) (x8 : Int) (x9 : ByteArray) (w : World) : (Instr.buildSlice 22 3 #[(0, (.agg #[(.int .i64 x1), (.int .i64 x2), (.string x3)])), (1, (.agg #[(.int .i64 x4), (.int .i64 x5), (.string x6)])), (2, (.agg #[(.int .i64 x7), (.int .i64 x8), (.string x9)]))]).run Tryz.prog w = .ok (.slice (some ⟨w.heap.size, 0, none⟩) 3 3) (w.alloc (.cells #[(.int .i64 x1), (.int .i64 x2), (.string x3), (.int .i64 x4), (.int .i64 x5), (.string x6), (.int .i64 x7), (.int .i64 x8), (.string x9)] 43 (0, 0))) := by kernel_rfl
theorem az7  (w : World) : (Instr.buildSlice 23 0 #[]).run Tryz.prog w = .ok (.slice (some ⟨w.heap.size, 0, none⟩) 0 0) (w.alloc (.cells #[] 3 (0, 0))) := by kernel_rfl
theorem uQ (x1 : Int) (w : World) : (Instr.buildSlice 23 1 #[(0, (.int .i64 x1))]).run Tryz.prog w = .ok (.slice (some ⟨w.heap.size, 0, none⟩) 1 1) (w.alloc (.cells #[(.int .i64 x1)] 3 (0, 0))) := by kernel_rfl
theorem iG (x1 : Int) (x2 : Int) (x3 : Int) (w : World) : (Instr.buildSlice 23 3 #[(0, (.int .i64 x1)), (1, (.int .i64 x2)), (2, (.int .i64 x3))]).run Tryz.prog w = .ok (.slice (some ⟨w.heap.size, 0, none⟩) 3 3) (w.alloc (.cells #[(.int .i64 x1), (.int .i64 x2), (.int .i64 x3)] 3 (0, 0))) := by kernel_rfl
theorem mM (x1 : Option Addr) (x2 : Nat) (x3 : Nat) (x4 : Option Addr) (x5 : Nat) (x6 : Nat) (w : World) : (Instr.buildSlice 29 2 #[(0, (.slice x1 x2 x3)), (1, (.slice x4 x5 x6))]).run Tryz.prog w = .ok (.slice (some ⟨w.heap.size, 0, none⟩) 2 2) (w.alloc (.cells #[(.slice x1 x2 x3), (.slice x4 x5 x6)] 22 (0, 0))) := by kernel_rfl
theorem nT (x1 : ByteArray) (w : World) : (Instr.buildSlice 30 1 #[(0, (.string x1))]).run Tryz.prog w = .ok (.slice (some ⟨w.heap.size, 0, none⟩) 1 1) (w.alloc (.cells #[(.string x1)] 9 (0, 0))) := by kernel_rfl
theorem iF (x1 : ByteArray) (x2 : ByteArray) (w : World) : (Instr.buildSlice 30 2 #[(0, (.string x1)), (1, (.string x2))]).run Tryz.prog w = .ok (.slice (some ⟨w.heap.size, 0, none⟩) 2 2) (w.alloc (.cells #[(.string x1), (.string x2)] 9 (0, 0))) := by kernel_rfl
theorem uP (x1 : ByteArray) (x2 : ByteArray) (x3 : ByteArray) (w : World) : (Instr.buildSlice 30 3 #[(0, (.string x1)), (1, (.string x2)), (2, (.string x3))]).run Tryz.prog w = .ok (.slice (some ⟨w.heap.size, 0, none⟩) 3 3) (w.alloc (.cells #[(.string x1), (.string x2), (.string x3)] 9 (0, 0))) := by kernel_rfl
theorem nS (x1 : ByteArray) (x2 : ByteArray) (x3 : ByteArray) (x4 : ByteArray) (w : World) : (Instr.buildSlice 30 4 #[(0, (.string x1)), (1, (.string x2)), (2, (.string x3)), (3, (.string x4))]).run Tryz.prog w = .ok (.slice (some ⟨w.heap.size, 0, none⟩) 4 4) (w.alloc (.cells #[(.string x1), (.string x2), (.string x3), (.string x4)] 9 (0, 0))) := by kernel_rfl
theorem az6 (x1 : ByteArray) (x2 : ByteArray) (x3 : ByteArray) (x4 : ByteArray) (x5 : ByteArray) (x6 : ByteArray) (w : World) : (Instr.buildSlice 30 6 #[(0, (.string x1)), (1, (.string x2)), (2, (.string x3)), (3, (.string x4)), (4, (.string x5)), (5, (.string x6))]).run Tryz.prog w = .ok (.slice (some ⟨w.heap.size, 0, none⟩) 6 6) (w.alloc (.cells #[(.string x1), (.string x2), (.string x3), (.string x4), (.string x5), (.string x6)] 9 (0, 0))) := by kernel_rfl
theorem dA (x1 : Int) (w : World) : (Instr.buildSlice 36 1 #[(0, (.int .u8 x1))]).run Tryz.prog w = .ok (.slice (some ⟨w.heap.size, 0, none⟩) 1 1) (w.alloc (.cells #[(.int .u8 x1)] 5 (0, 0))) := by kernel_rfl
theorem zI (x1 : Option Addr) (x2 : Nat) (x3 : Nat) (x4 : Option Addr) (x5 : Nat) (x6 : Nat) (w : World) : (Instr.buildSlice 55 2 #[(0, (.slice x1 x2 x3)), (1, (.slice x4 x5 x6))]).run Tryz.prog w = .ok (.slice (some ⟨w.heap.size, 0, none⟩) 2 2) (w.alloc (.cells #[(.slice x1 x2 x3), (.slice x4 x5 x6)] 30 (0, 0))) := by kernel_rfl
theorem D7 (x1 : Int) (x2 : Option Addr) (x3 : Nat) (x4 : Nat) (w : World) : (Instr.buildSlice 123 1 #[(0, (.agg #[(.int .i64 x1), (.slice x2 x3 x4)]))]).run Tryz.prog w = .ok (.slice (some ⟨w.heap.size, 0, none⟩) 1 1) (w.alloc (.cells #[(.int .i64 x1), (.slice x2 x3 x4)] 120 (0, 0))) := by kernel_rfl
theorem wG (a0 b0 : Int) (a1 b1 : Int) (a2 b2 : Str) (w : World) : (Op.equalIn 10000 43 (.agg #[.int .i64 a0, .int .i64 a1, .string ⟨(a2 : Str).toArray⟩]) (.agg #[.int .i64 b0, .int .i64 b1, .string ⟨(b2 : Str).toArray⟩])).run Tryz.prog w = .ok (decide ((a0, a1, a2) = (b0, b1, b2))) w := by
  rw [run_equalIn_agg w 9999 43 _ _ (by simp only [Program.fieldsOf, Tryz.underlying43]) (by kernel_rfl)]; simp only [Program.fieldsOf, Tryz.underlying43]
  by_cases h0 : a0 = b0 <;> by_cases h1 : a1 = b1 <;> by_cases h2 : a2 = b2 <;>
    simp [Op.eqFields, part, isAgg, run_equalIn_int _ 9998 3 .i64 .i64 _ _ Tryz.underlying3, run_equalIn_string _ 9998 9 _ _ Tryz.underlying9, run_underlying Tryz.underlying3, run_underlying Tryz.underlying9, h0, h1, h2]
theorem vL (a0 b0 : Int) (a1 b1 : Int) (a2 b2 : Str) (w : World) : (binOp .neq 43 (.agg #[.int .i64 a0, .int .i64 a1, .string ⟨(a2 : Str).toArray⟩]) (.agg #[.int .i64 b0, .int .i64 b1, .string ⟨(b2 : Str).toArray⟩])).run Tryz.prog w = .ok (.bool (decide (¬ (a0, a1, a2) = (b0, b1, b2)))) w := by rw [run_neq_struct, wG, decide_not]; rfl
theorem wI (op : BinOp) (x y : Operand) (xs ys : Array Value) (w : World) : (eqGuard op 43 x y (.agg xs) (.agg ys)).run Tryz.prog w = .ok () w := run_eqGuard_agg w op 43 x y xs ys (by kernel_rfl)
theorem wH (a0 b0 : Int) (a1 b1 : Int) (w : World) : (Op.equalIn 10000 58 (.agg #[.int .i64 a0, .int .i64 a1]) (.agg #[.int .i64 b0, .int .i64 b1])).run Tryz.prog w = .ok (decide ((a0, a1) = (b0, b1))) w := by
  rw [run_equalIn_agg w 9999 58 _ _ (by simp only [Program.fieldsOf, Tryz.underlying58]) (by kernel_rfl)]; simp only [Program.fieldsOf, Tryz.underlying58]
  by_cases h0 : a0 = b0 <;> by_cases h1 : a1 = b1 <;>
    simp [Op.eqFields, part, isAgg, run_equalIn_int _ 9998 3 .i64 .i64 _ _ Tryz.underlying3, run_underlying Tryz.underlying3, h0, h1]
theorem wF (a0 b0 : Int) (a1 b1 : Int) (w : World) : (binOp .eql 58 (.agg #[.int .i64 a0, .int .i64 a1]) (.agg #[.int .i64 b0, .int .i64 b1])).run Tryz.prog w = .ok (.bool (decide ((a0, a1) = (b0, b1)))) w := by rw [run_eql_struct, wH]; rfl
theorem wJ (op : BinOp) (x y : Operand) (xs ys : Array Value) (w : World) : (eqGuard op 58 x y (.agg xs) (.agg ys)).run Tryz.prog w = .ok () w := run_eqGuard_agg w op 58 x y xs ys (by kernel_rfl)
end T
end Go.Proofs.YtegfgegnhjkcfaaGreatDoor
end
section
namespace Go.W
universe u
open Go Go.RowKit
class El (α : Type) extends Inhabited α where
  cells : α → List Value
  sz : Nat
  len : ∀ a, (cells a).length = sz
  one : ∀ a, ∀ u ∈ cells a, u.oneCell' = true
def rows {α : Type} [El α] (l : List α) : List Value := l.flatMap El.cells
instance : El Str where
  default := []
  cells s := [str s]
  sz := 1
  len _ := rfl
  one a u h := by simp at h; subst h; rfl
instance : El Int where
  default := 0
  cells n := [int n]
  sz := 1
  len _ := rfl
  one a u h := by simp at h; subst h; rfl
instance : El UInt8 where
  default := 0
  cells n := [.int .u8 n.toNat]
  sz := 1
  len _ := rfl
  one a u h := by simp at h; subst h; rfl
abbrev Mk := Int × Int × Str
instance : El Mk where
  default := (0, 0, [])
  cells m := [int m.1, int m.2.1, str m.2.2]
  sz := 3
  len _ := rfl
  one a u h := by simp at h; rcases h with h | h | h <;> subst h <;> rfl
structure Sl (α : Type) where
  a : Option Addr
  c : Nat
  l : List α
instance {α : Type} : El (Sl α) where
  default := ⟨none, 0, []⟩
  cells p := [.slice p.a p.l.length p.c]
  sz := 1
  len _ := rfl
  one a u h := by simp at h; subst h; rfl
section
variable {α : Type} [El α]
theorem gC : rows ([] : List α) = [] := rfl
theorem H4 (a : α) (l : List α) : rows (a :: l) = El.cells a ++ rows l := rfl
theorem t3 (l l' : List α) : rows (l ++ l') = rows l ++ rows l' := by simp [rows]
theorem E5 (l : List α) : (rows l).length = l.length * El.sz α := by
  induction l with
  | nil => simp [gC]
  | cons a l ih => rw [H4, List.length_append, El.len, ih, List.length_cons, Nat.add_mul, Nat.one_mul, Nat.add_comm]
theorem I7 (l : List α) : ∀ u ∈ rows l, u.oneCell' = true := by
  intro u hu; obtain ⟨a, _, h⟩ := List.mem_flatMap.1 hu; exact El.one a u h
theorem mT (l : List α) (k : Nat) : (rows l).drop (k * El.sz α) = rows (l.drop k) := by
  induction l generalizing k with
  | nil => simp [gC]
  | cons a l ih =>
    cases k with
    | zero => simp
    | succ k =>
      rw [H4, List.drop_succ_cons, ← ih, List.drop_append, El.len, List.drop_eq_nil_of_le (by rw [El.len, Nat.succ_mul]; omega), List.nil_append]
      congr 1
      rw [Nat.succ_mul]
      omega
theorem rows_get' (l : List α) (i j : Nat) (hi : i < l.length) (hj : j < El.sz α) : (rows l)[i * El.sz α + j]? = (El.cells (l.getD i default))[j]? := by
  have h := congrArg (·[j]?) (mT l i); simp only [List.getElem?_drop] at h; rw [h, List.drop_eq_getElem_cons hi, H4, List.getElem?_append_left (by rw [El.len]; exact hj)]
  simp [List.getD_eq_getElem?_getD, hi]
theorem rows_get {l : List α} {i j : Nat} {v : Value} (hi : i < l.length) (hv : (El.cells (l.getD i default))[j]? = some v) : (rows l)[i * El.sz α + j]? = some v := by
  have hj : j < El.sz α := by
    have := (List.getElem?_eq_some_iff.1 hv).1
    rwa [El.len] at this
  rw [rows_get' l i j hi hj, hv]
theorem b4 {l : List α} {i : Nat} {v : Value} (hi : i < l.length) (hv : (El.cells (l.getD i default))[0]? = some v) : (rows l)[i * El.sz α]? = some v := rows_get (j := 0) hi hv
theorem q8 {l : List α} {i : Nat} (hi : i < l.length) : ∀ j u, (El.cells (l.getD i default))[j]? = some u → (rows l)[i * El.sz α + j]? = some u := fun j u h => rows_get hi h
theorem rows_lt {l : List α} {i : Nat} (hi : i < l.length) (h0 : 0 < El.sz α) : i * El.sz α < (rows l).length := by
  rw [E5]; exact Nat.mul_lt_mul_of_pos_right hi h0
theorem hZ (l : List α) (k : Nat) : (rows l).take (k * El.sz α) = rows (l.take k) := by
  induction l generalizing k with
  | nil => simp [gC]
  | cons a l ih =>
    cases k with
    | zero => simp [gC]
    | succ k =>
      rw [H4, List.take_succ_cons, H4, ← ih, Nat.succ_mul, List.take_append, El.len, List.take_of_length_le (by rw [El.len]; omega)]
      congr 2
      omega
end
theorem mW {c : Cx} {Q : Exit → Act → World → Prop} {fr : Fr} {hp : Hp} {L : List Fact} {ops : Array Oper} {rest : List Oper} {d : Tmp} {ty : TypeId} {pos : String} {af : Array Edge}
    {s t : TypeId} {x : Operand} {ks k k' : IntKind} {a : Int} (z : Int) (hd : Nat.blt d c.n = true) (hs : c.P.underlying s = some (.int ks)) (ht : c.P.underlying t = some (.int k')) (hx : ev fr x = some (.int k a)) (hz : k'.wrap a = z)
    (kk : HL c ops Q rest ((d, .int k' z) :: fr) hp L) : HL c ops Q (⟨some d, .convert s t x, ty, pos, af, none⟩ :: rest) fr hp L :=
  n9 _ rfl rfl hd (fun a' w ha _ => by
    simp only [execOp, ha.ev hx, Sem.run_bind, convert, run_underlying hs, run_underlying ht, Result.andThen_ok]; rw [← hz]
    cases ks <;> rfl) kk
theorem r_rem {c : Cx} {Q : Exit → Act → World → Prop} {fr : Fr} {hp : Hp} {L : List Fact} {ops : Array Oper} {rest : List Oper} {d : Tmp} {ty : TypeId} {pos : String} {af : Array Edge}
    {t yt : TypeId} {x y : Operand} {kd : IntKind} {a b : Int} (hd : Nat.blt d c.n = true) (hx : ev fr x = some (.int kd a)) (hy : ev fr y = some (.int kd b)) (hb : b ≠ 0)
    (kk : HL c ops Q rest ((d, .int kd (a.tmod b)) :: fr) hp L) : HL c ops Q (⟨some d, .binOp .rem t x y yt, ty, pos, af, none⟩ :: rest) fr hp L :=
  D2 _ hd hx hy (fun _ => rfl) (fun w => by
    have : (binOp .rem t (.int kd a) (.int kd b)) = Op.intDiv .rem kd a b := by cases kd <;> rfl
    rw [this]
    simp [Op.intDiv, hb]) kk
theorem wrapU (n : Int) : 0 ≤ IntKind.u64.wrap n ∧ IntKind.u64.wrap n < 18446744073709551616 := by
  simp only [IntKind.wrap, IntKind.bits, IntKind.signed]
  simp
  omega
theorem r7 {α : Type} [El α] {c : Cx} {Q : Exit → Act → World → Prop} {fr : Fr} {hp : Hp} {L : List Fact} {ops : Array Oper} {rest : List Oper} {d : Tmp} {ty : TypeId} {pos : String} {af : Array Edge}
    {t e : TypeId} {x i : Operand} {A : Option Addr} {n cp : Nat} {kd : IntKind} {z : Int} (l : List α) (j : Nat) (hd : Nat.blt d c.n = true) (ht : c.P.underlying t = some (.slice e)) (hz : Sz c.P e (El.sz α))
    (hx : ev fr x = some (.slice A n cp)) (hi : ev fr i = some (.int kd z)) (hjz : z = (j : Int)) (hr : Row A (rows l) ∈ L) (hn : n = l.length) (hj : j < l.length) (h0 : 0 < El.sz α)
    (k : HL c ops Q rest ((d, .pointer (some ((adr A).add (j * El.sz α)))) :: fr) hp L) : HL c ops Q (⟨some d, .indexAddr t x i, ty, pos, af, none⟩ :: rest) fr hp L :=
  xI j hd ht hz hx hi hjz (by omega) hr (rows_lt hj h0) k
def Rows2 {α : Type} [El α] (A : Option Addr) (ps : List (Sl α)) : Fact where
  P w := (Row A (rows ps)).P w ∧ ∀ p ∈ ps, (Row p.a (rows p.l)).P w
  fp k := (Row A (rows ps)).fp k ∨ ∃ p ∈ ps, (Row p.a (rows p.l)).fp k
  st w w' h hP := ⟨(Row A (rows ps)).st w w' (fun k hk => h k (.inl hk)) hP.1, fun p hp => (Row p.a (rows p.l)).st w w' (fun k hk => h k (.inr ⟨p, hp, hk⟩)) (hP.2 p hp)⟩
  lt w hP k hk := by
    rcases hk with hk | ⟨p, hp, hk⟩
    · exact (Row A (rows ps)).lt w hP.1 k hk
    exact (Row p.a (rows p.l)).lt w (hP.2 p hp) k hk
section
variable {c : Cx} {Q : Exit → Act → World → Prop} {fr : Fr} {hp : Hp} {L : List Fact} {ops : Array Oper} {rest : List Oper}
theorem bj6 {α : Type} [El α] {b : Bx} {w : World} {A : Option Addr} {ps : List (Sl α)} (h : Rows2 A ps ∈ L) (hw : WI b w hp L) : WI b w hp (Row A (rows ps) :: L) :=
  R3 hw (hw.fs _ h).1 (fun k hk => ⟨_, h, .inl hk⟩)
theorem bj8 {α : Type} [El α] {b : Bx} {w : World} {A : Option Addr} {ps : List (Sl α)} {p : Sl α} (h : Rows2 A ps ∈ L) (hp' : p ∈ ps) (hw : WI b w hp L) : WI b w hp (Row p.a (rows p.l) :: L) :=
  R3 hw ((hw.fs _ h).2 p hp') (fun k hk => ⟨_, h, .inr ⟨p, hp', hk⟩⟩)
theorem sG {α : Type} [El α] {A : Option Addr} {ps : List (Sl α)} {x : Code} (h : Rows2 A ps ∈ L) (k : HC c x Q fr hp (Row A (rows ps) :: L)) : HC c x Q fr hp L := fun a w ha hw => k a w ha (bj6 h hw)
theorem bW {α : Type} [El α] {A : Option Addr} {ps : List (Sl α)} {p : Sl α} (h : Rows2 A ps ∈ L) (hp' : p ∈ ps) (k : HL c ops Q rest fr hp (Row p.a (rows p.l) :: L)) : HL c ops Q rest fr hp L := fun a w ha hw => k a w ha (bj8 h hp' hw)
variable {d : Tmp} {ty : TypeId} {pos : String} {af : Array Edge}
theorem p_t {x y z : Operand} {v : Value} {b : Bool} (hd : Nat.blt d c.n = true) (hx : ev fr x = some (.bool b)) (hb : b = true) (hy : ev fr y = some v) (k : HL c ops Q rest ((d, v) :: fr) hp L) : HL c ops Q (⟨some d, .pick x y z, ty, pos, af, none⟩ :: rest) fr hp L := by
  subst hb; exact bx0 hd hx hy k
theorem p_f {x y z : Operand} {v : Value} {b : Bool} (hd : Nat.blt d c.n = true) (hx : ev fr x = some (.bool b)) (hb : b = false) (hz : ev fr z = some v) (k : HL c ops Q rest ((d, v) :: fr) hp L) : HL c ops Q (⟨some d, .pick x y z, ty, pos, af, none⟩ :: rest) fr hp L := by
  subst hb; exact bx1 hd hx hz k
theorem c_t {x : Operand} {b : Bool} {thn els : Code} (hx : ev fr x = some (.bool b)) (hb : b = true) (ht : HC c thn Q fr hp L) : HC c (.cond x thn els) Q fr hp L := by subst hb; exact ax8 hx ht
theorem c_f {x : Operand} {b : Bool} {thn els : Code} (hx : ev fr x = some (.bool b)) (hb : b = false) (hf : HC c els Q fr hp L) : HC c (.cond x thn els) Q fr hp L := by subst hb; exact ax9 hx hf
theorem bt1 {b : Bool} (h : (b == true) = true) : b = true := by cases b <;> simp_all
theorem bt2 {b : Bool} (h : (b == false) = false) : b = true := by cases b <;> simp_all
theorem bf1 {b : Bool} (h : (b == false) = true) : b = false := by cases b <;> simp_all
theorem bf2 {b : Bool} (h : (b == true) = false) : b = false := by cases b <;> simp_all
theorem gy {b : Bool} (h : (b == true) = false) : (b == false) = true := by cases b <;> simp_all
theorem gn {b : Bool} (h : (b == true) = true) : (b == false) = false := by cases b <;> simp_all
theorem L4 {o : Oper} {j : Nat} {want : Bool} {t : Tmp} {v : Value} (ho : o.dst = some d) (hg : o.guard = some (j, want)) (hd : Nat.blt d c.n = true) (hj : (ops[j]?).bind (·.dst) = some t) (hv : lk fr t = some v) (hu : v = undef)
    (k : HL c ops Q rest ((d, undef) :: fr) hp L) : HL c ops Q (o :: rest) fr hp L := by
  subst hu; intro a w ha hw; refine wY ?_ ?_
  · rw [Region.wanted, hg]
    show (yielded ops a.tmps j == some want) = false; have h1 := ha.at_ t _ hv
    have : yielded ops a.tmps j = none := by
      unfold yielded; rw [hj]; simp only [Option.bind_some]
      cases h2 : a.tmps[t]? with
      | none => rfl
      | some u => simp [Array.getD_eq_getD_getElem?, h2, undef] at h1; rw [h1]
    rw [this]; rfl
  rw [ho]; exact k _ _ (ha.put (by simpa using hd) _) hw
theorem l3 {dst : Option Tmp} {op : Op} {j : Nat} {want b : Bool} {t : Tmp} (hj : (ops[j]?).bind (·.dst) = some t) (hv : lk fr t = some (.bool b))
    (hy : (b == want) = true → HL c ops Q (⟨dst, op, ty, pos, af, some (j, want)⟩ :: rest) fr hp L) (hn : (b == want) = false → HL c ops Q (⟨dst, op, ty, pos, af, some (j, want)⟩ :: rest) fr hp L) :
    HL c ops Q (⟨dst, op, ty, pos, af, some (j, want)⟩ :: rest) fr hp L := by
  cases hb : (b == want)
  · exact hn hb
  exact hy hb
theorem xX {O0 : Hp} {K : Env → Prop} {r : List Oper} {E : Env} {want b : Bool} {t : Tmp} (hv : lkE E t = some (.ex (.bool b))) (hy : (b == want) = true → HB c ops fr O0 hp L K r E) (hn : (b == want) = false → HB c ops fr O0 hp L K r E) : HB c ops fr O0 hp L K r E := by
  cases hb : (b == want)
  · exact hn hb
  exact hy hb
theorem i8 {x : Operand} {p : Prop} [Decidable p] {thn els : Code} (hx : ev fr x = some (.bool (decide p))) (ht : p → HC c thn Q fr hp L) (hf : ¬ p → HC c els Q fr hp L) : HC c (.cond x thn els) Q fr hp L :=
  b9 hx (fun h => ht (of_decide_eq_true h)) (fun h => hf (of_decide_eq_false h))
end
theorem m0 {α : Type u} {a  : α} {l : List α} : a ∈ a :: l := .head _
theorem m1 {α : Type u} {a x0 : α} {l : List α} : a ∈ x0 :: a :: l := .tail _ (.head _)
theorem m2 {α : Type u} {a x0 x1 : α} {l : List α} : a ∈ x0 :: x1 :: a :: l := .tail _ (.tail _ (.head _))
theorem m3 {α : Type u} {a x0 x1 x2 : α} {l : List α} : a ∈ x0 :: x1 :: x2 :: a :: l := .tail _ (.tail _ (.tail _ (.head _)))
theorem m4 {α : Type u} {a x0 x1 x2 x3 : α} {l : List α} : a ∈ x0 :: x1 :: x2 :: x3 :: a :: l := .tail _ (.tail _ (.tail _ (.tail _ (.head _))))
theorem m5 {α : Type u} {a x0 x1 x2 x3 x4 : α} {l : List α} : a ∈ x0 :: x1 :: x2 :: x3 :: x4 :: a :: l := .tail _ (.tail _ (.tail _ (.tail _ (.tail _ (.head _)))))
theorem m6 {α : Type u} {a x0 x1 x2 x3 x4 x5 : α} {l : List α} : a ∈ x0 :: x1 :: x2 :: x3 :: x4 :: x5 :: a :: l := .tail _ (.tail _ (.tail _ (.tail _ (.tail _ (.tail _ (.head _))))))
theorem m7 {α : Type u} {a x0 x1 x2 x3 x4 x5 x6 : α} {l : List α} : a ∈ x0 :: x1 :: x2 :: x3 :: x4 :: x5 :: x6 :: a :: l := .tail _ (.tail _ (.tail _ (.tail _ (.tail _ (.tail _ (.tail _ (.head _)))))))
theorem m8 {α : Type u} {a x0 x1 x2 x3 x4 x5 x6 x7 : α} {l : List α} : a ∈ x0 :: x1 :: x2 :: x3 :: x4 :: x5 :: x6 :: x7 :: a :: l := .tail _ (.tail _ (.tail _ (.tail _ (.tail _ (.tail _ (.tail _ (.tail _ (.head _))))))))
theorem m9 {α : Type u} {a x0 x1 x2 x3 x4 x5 x6 x7 x8 : α} {l : List α} : a ∈ x0 :: x1 :: x2 :: x3 :: x4 :: x5 :: x6 :: x7 :: x8 :: a :: l := .tail _ (.tail _ (.tail _ (.tail _ (.tail _ (.tail _ (.tail _ (.tail _ (.tail _ (.head _)))))))))
theorem m10 {α : Type u} {a x0 x1 x2 x3 x4 x5 x6 x7 x8 x9 : α} {l : List α} : a ∈ x0 :: x1 :: x2 :: x3 :: x4 :: x5 :: x6 :: x7 :: x8 :: x9 :: a :: l := .tail _ (.tail _ (.tail _ (.tail _ (.tail _ (.tail _ (.tail _ (.tail _ (.tail _ (.tail _ (.head _))))))))))
theorem m11 {α : Type u} {a x0 x1 x2 x3 x4 x5 x6 x7 x8 x9 x10 : α} {l : List α} : a ∈ x0 :: x1 :: x2 :: x3 :: x4 :: x5 :: x6 :: x7 :: x8 :: x9 :: x10 :: a :: l := .tail _ (.tail _ (.tail _ (.tail _ (.tail _ (.tail _ (.tail _ (.tail _ (.tail _ (.tail _ (.tail _ (.head _)))))))))))
theorem m12 {α : Type u} {a x0 x1 x2 x3 x4 x5 x6 x7 x8 x9 x10 x11 : α} {l : List α} : a ∈ x0 :: x1 :: x2 :: x3 :: x4 :: x5 :: x6 :: x7 :: x8 :: x9 :: x10 :: x11 :: a :: l := .tail _ (.tail _ (.tail _ (.tail _ (.tail _ (.tail _ (.tail _ (.tail _ (.tail _ (.tail _ (.tail _ (.tail _ (.head _))))))))))))
theorem perm3 {α : Type} (a b c : α) (l : List α) : (a :: b :: c :: l).Perm (c :: a :: b :: l) := by
  have h1 : (a :: b :: c :: l).Perm (a :: c :: b :: l) := (List.Perm.swap c b l).cons a; exact h1.trans (.swap c a _)
theorem perm2 {α : Type} (a b : α) (l : List α) : (a :: b :: l).Perm (b :: a :: l) := .swap b a l
theorem perm4 {α : Type} (a b c d : α) (l : List α) : (a :: b :: c :: d :: l).Perm (d :: a :: b :: c :: l) := ((perm3 b c d l).cons a).trans (.swap d a _)
end Go.W
end
section
namespace Go.W
open Go Go.RowKit
section
variable {c : Cx} {Q : Exit → Act → World → Prop} {fr : Fr} {hp : Hp} {L : List Fact} {ops : Array Oper} {rest : List Oper}
variable {d : Tmp} {ty : TypeId} {pos : String} {af : Array Edge}
theorem bz3 {g : Nat} {cs : Array Value} {t : TypeId} {fz : Nat × Nat} {w : World} (h : w.heap[g]? = some (.cells cs t fz)) {us : List Value} (hu : us <+: cs.toList) : (Row (j4 g) us).P w := fun j u hj => by
  refine ⟨_, rfl, ?_⟩; rw [dB, Nat.zero_add]; obtain ⟨r, hr⟩ := hu
  have : cs[j]? = some u := by
    rw [← Array.getElem?_toList, ← hr, List.getElem?_append]; have hlt : j < us.length := (List.getElem?_eq_some_iff.1 hj).1; rw [if_pos hlt, hj]
  simp [World.cell?, h, this]
theorem qX (s : Str) : rows s = s.map (fun b => Value.int .u8 b.toNat) := by
  induction s with
  | nil => rfl
  | cons a s ih => rw [H4, ih]; rfl
theorem zV {s t e : TypeId} {x : Operand} {l : Str} (hd : Nat.blt d c.n = true) (hs : c.P.underlying s = some .string) (ht : c.P.underlying t = some (.slice e)) (he : c.P.underlying e = some (.int .u8)) (hx : ev fr x = some (str l))
    (k : ∀ g cap, HL c ops Q rest ((d, .slice (j4 g) l.length cap) :: fr) hp (Row (j4 g) (rows l) :: L)) : HL c ops Q (⟨some d, .convert s t x, ty, pos, af, none⟩ :: rest) fr hp L :=
  kL rfl rfl hd fun a w ha hw => by
    have h1 := run_bytes_of_string (P := c.P) w s t e (.mk l.toArray) hs ht he; refine ⟨_, (w.drew.alloc (.cells (bytesRow (.mk l.toArray) (grownCap w (ByteArray.mk l.toArray).size 0 e)) e ((bytesRow (.mk l.toArray) (grownCap w (ByteArray.mk l.toArray).size 0 e)).size, (bytesRow (.mk l.toArray) (grownCap w (ByteArray.mk l.toArray).size 0 e)).size + 1))), hp, _, ?_, ?_, k w.heap.size (grownCap w (ByteArray.mk l.toArray).size 0 e)⟩
    · simp only [execOp, ha.ev hx, str, Sem.run_bind, h1, Result.andThen_ok, Sem.run_pure]
      rfl
    have h2 := (hw.quiet (sM w)).alloc (.cells (bytesRow (.mk l.toArray) (grownCap w (ByteArray.mk l.toArray).size 0 e)) e ((bytesRow (.mk l.toArray) (grownCap w (ByteArray.mk l.toArray).size 0 e)).size, (bytesRow (.mk l.toArray) (grownCap w (ByteArray.mk l.toArray).size 0 e)).size + 1)); refine WI.letgo h2 (bz3 (h2.own (w.heap.size, _) (.head _)) ?_) (fun k hk => by obtain ⟨ad, e', h3, _⟩ := hk; cases e'; exact h3.symm); rw [qX, bytesRow]
    simp
theorem w7 {t e : TypeId} {x : Operand} {g : Nat} {cs : Array Value} {fz : Nat × Nat} {n : Nat} (hd : Nat.blt d c.n = true) (ht' : IsR c.P t) (hz' : Sz c.P t n) (hx : ev fr x = some (.pointer (j4 g))) (h : (g, Obj.cells cs e fz) ∈ hp) (hn : cs.size = n)
    (k : HL c ops Q rest ((d, .agg cs) :: fr) hp L) : HL c ops Q (⟨some d, .load t x, ty, pos, af, none⟩ :: rest) fr hp L :=
  r8 (cs := cs.toList) hd ht' hz' hx (by simpa using hn) (uN h (fun i u hu => by simpa using hu)) k
end
end Go.W
end
section
namespace Go.W
open Go Go.RowKit
abbrev Ment (κ : Type) := κ × Value × Nat
def entOf {κ : Type} (enc : κ → Value) (p : Ment κ) : MapEntry := ⟨enc p.1, p.2.1, p.2.2⟩
def mapO {κ : Type} (enc : κ → Value) (l : List (Ment κ)) (clk : Nat) : Obj := .map (l.map (entOf enc)).toArray clk
def findM {κ : Type} [DecidableEq κ] (k : κ) : List (Ment κ) → Nat → Option (Nat × Value)
  | [], _ => none
  | p :: l, i => if p.1 = k then some (i, p.2.1) else findM k l (i + 1)
def getM {κ : Type} [DecidableEq κ] (l : List (Ment κ)) (k : κ) : Option Value := (findM k l 0).map (·.2)
def putM {κ : Type} [DecidableEq κ] (l : List (Ment κ)) (k : κ) (v : Value) (clk : Nat) : List (Ment κ) :=
  match findM k l 0 with
  | some (i, _) => l.modify i fun p => (k, v, p.2.2)
  | none => l ++ [(k, v, clk)]
def clkM {κ : Type} [DecidableEq κ] (l : List (Ment κ)) (k : κ) (clk : Nat) : Nat := if (findM k l 0).isSome then clk else clk + 1
structure KeyC (P : Program) (kt : TypeId) {κ : Type} [DecidableEq κ] (enc : κ → Value) : Prop where
  chk : ∀ b k w, (Instr.checkKey b 10000 kt (enc k)).run P w = .ok () w
  find : ∀ k l w, (Instr.findKey kt (enc k) (l.map (entOf enc))).run P w = .ok (findM k l 0) w
  stays : ∀ k w, (Instr.keyThatStays (enc k) (enc k)).run P w = .ok (enc k) w
theorem pF (k : Int) : ∀ (l : List (Ment Int)) (i : Nat), Instr.findNow (.int .i64) (int k) (l.map (entOf int)) i = some (findM k l i)
  | [], i => rfl
  | p :: l, i => by
    rw [List.map_cons, Instr.findNow]; simp only [Instr.sameNow, entOf, findM]
    by_cases h : p.1 = k
    · simp [h]
    have h' : ¬ k = p.1 := fun e => h e.symm; simp only [if_true, h, if_false, beq_eq_false_iff_ne.2 h']; exact pF k l (i + 1)
theorem pE (k : Str) : ∀ (l : List (Ment Str)) (i : Nat), Instr.findNow .string (str k) (l.map (entOf str)) i = some (findM k l i)
  | [], i => rfl
  | p :: l, i => by
    rw [List.map_cons, Instr.findNow]; simp only [str, Instr.sameNow, entOf, findM]
    have hb : ((ByteArray.mk k.toArray) == ByteArray.mk p.1.toArray) = decide (p.1 = k) := by
      rw [Bool.eq_iff_iff, MapKept.bytes_beq, decide_eq_true_iff]
      constructor
      · intro e
        injection e with e
        have := congrArg Array.toList e
        simpa using this.symm
      intro e; rw [e]
    rw [hb]
    by_cases h : p.1 = k
    · simp [h]
    simp only [h, decide_false, if_false]; exact pE k l (i + 1)
theorem KeyC.int {P : Program} {kt : TypeId} (h : P.underlying kt = some (.int .i64)) : KeyC P kt W.int where
  chk b k w := MapKept.run_checkKey h (by simp [MapKept.IsKey]) b 9999
  find k l w := MapKept.run_findKey h (pF k l 0)
  stays k w := MapKept.run_keyThatStays (d := .int .i64) (by simp [MapKept.IsKey])
theorem KeyC.str {P : Program} {kt : TypeId} (h : P.underlying kt = some .string) : KeyC P kt W.str where
  chk b k w := MapKept.run_checkKey h (by simp [MapKept.IsKey, W.str]) b 9999
  find k l w := MapKept.run_findKey h (pE k l 0)
  stays k w := MapKept.run_keyThatStays (d := .string) (by simp [MapKept.IsKey, W.str])
def pair (p : Int × Int) : Value := .agg #[W.int p.1, W.int p.2]
theorem bN {P : Program} {e : TypeId} (he : P.underlying e = some (.int .i64)) (cs : Array Value) (i : Nat) (v : Value) (hv : cs[i]? = some v) (w : World) : (part e cs i).run P w = .ok v w := by
  have hagg : (isAgg e).run P w = .ok false w := by
    unfold isAgg; rw [Sem.run_bind, run_underlying he w]
    rfl
  simp [part, Sem.run_bind, hagg, hv]
theorem zF {P : Program} {e : TypeId} (he : P.underlying e = some (.int .i64)) (d : Nat) (a b : Int) (w : World) : (Op.equalIn (d + 1) e (W.int a) (W.int b)).run P w = .ok (a == b) w := by
  simp [Op.equalIn, run_underlying he]
theorem eq_pair {P : Program} {kt e : TypeId} (h : P.underlying kt = some (.array 2 e)) (he : P.underlying e = some (.int .i64)) (hz : Sz P e 1) (p q : Int × Int) (w : World) : (Op.equal kt (pair p) (pair q)).run P w = .ok (decide (p = q)) w := by
  have hs := R5 hz w
  have key : ∀ d, (Op.equalIn (d + 2) kt (pair p) (pair q)).run P w = .ok (decide (p = q)) w := by
    intro d; obtain ⟨a, b⟩ := p; obtain ⟨a', b'⟩ := q; have p0 := bN he #[W.int a, W.int b] 0 (W.int a) rfl w; have p1 := bN he #[W.int a, W.int b] 1 (W.int b) rfl w; have q0 := bN he #[W.int a', W.int b'] 0 (W.int a') rfl w; have q1 := bN he #[W.int a', W.int b'] 1 (W.int b') rfl w; unfold Op.equalIn; simp only [Sem.run_bind, run_underlying h, pair, hs, Result.andThen_ok, Std.Legacy.Range.forIn_eq_forIn_range', Std.Legacy.Range.size, Nat.sub_zero, Nat.reduceAdd, Nat.reduceSub, Nat.reduceDiv, List.range', List.forIn_cons, List.forIn_nil, Nat.zero_mul, Nat.mul_one, Nat.zero_add, p0, p1, q0, q1, zF he d]
    by_cases h1 : a = a'
    · subst h1
      by_cases h2 : b = b'
      · subst h2; simp [p1, zF he d]
      simp [h2, p1, q1, zF he d]
    simp [h1]
  exact key 9998
theorem sJ {P : Program} {kt e : TypeId} (h : P.underlying kt = some (.array 2 e)) (he : P.underlying e = some (.int .i64)) (hz : Sz P e 1) (k : Int × Int) (w : World) : ∀ (l : List (Ment (Int × Int))) (i : Nat), (Instr.findAsking kt (pair k) (l.map (entOf pair)) i).run P w = .ok (findM k l i) w
  | [], i => rfl
  | p :: l, i => by
    rw [List.map_cons, Instr.findAsking]; simp only [Sem.run_bind, entOf, eq_pair h he hz, Result.andThen_ok, findM]
    by_cases hk : p.1 = k
    · simp [hk]
    have h' : ¬ k = p.1 := fun e => hk e.symm; simp only [hk, h', decide_false, Bool.false_eq_true, if_false]; exact sJ h he hz k w l (i + 1)
theorem KeyC.pair {P : Program} {kt e : TypeId} (h : P.underlying kt = some (.array 2 e)) (he : P.underlying e = some (.int .i64)) (hz : Sz P e 1) : KeyC P kt W.pair where
  chk b k w := by
    have hs := R5 hz w; have p0 := bN he #[W.int k.1, W.int k.2] 0 (W.int k.1) rfl w; have p1 := bN he #[W.int k.1, W.int k.2] 1 (W.int k.2) rfl w; have c : ∀ (n : Int), (Instr.checkKey b 9999 e (W.int n)).run P w = .ok () w := fun n => MapKept.run_checkKey he (by simp [MapKept.IsKey]) b 9998; unfold Instr.checkKey
    simp [run_underlying h, W.pair, hs, Std.Legacy.Range.forIn_eq_forIn_range', List.range', p0, p1, c]
  find k l w := by
    unfold Instr.findKey; simp only [Sem.run_bind, run_underlying h, Result.andThen_ok]
    have : Instr.findNow (.array 2 e) (W.pair k) (l.map (entOf W.pair)) 0 = none ∨ (l = [] ∧ Instr.findNow (.array 2 e) (W.pair k) (l.map (entOf W.pair)) 0 = some none) := by
      cases l with
      | nil => exact .inr ⟨rfl, rfl⟩
      | cons p l => exact .inl rfl
    rcases this with h1 | ⟨rfl, h1⟩
    · rw [h1]
      exact sJ h he hz k w l 0
    rw [h1]; rfl
  stays k w := by
    obtain ⟨a, b⟩ := k
    have : Instr.sameBits 10000 (W.pair (a, b)) (W.pair (a, b)) = true := by
      simp [Instr.sameBits, W.pair]
    unfold Instr.keyThatStays; rw [if_pos this]
    rfl
/-! ### Cuts aS9 facts; perms -/
theorem L7 {α : Type} {l l' : List α} (h : ∀ p : α → Bool, l.countP p = l'.countP p) : l.Perm l' := by
  classical
  refine List.perm_iff_count.2 fun a => ?_
  simpa [List.count] using h (· == a)
theorem pm1 {α : Type} (l : List α) (a b c : α) : (a :: b :: (l ++ [c])).Perm (l ++ [a, b, c]) := L7 fun p => by simp only [List.countP_append, List.countP_cons, List.countP_nil]; omega
theorem pm2 {α : Type} (l : List α) (a b c : α) : (l ++ [a, b, c]).Perm (b :: (l ++ [a, c])) := L7 fun p => by simp only [List.countP_append, List.countP_cons, List.countP_nil]; omega
theorem pm3 {α : Type} (l : List α) (a b c : α) : (a :: (l ++ [b, c])).Perm (l ++ [a, b, c]) := L7 fun p => by simp only [List.countP_append, List.countP_cons, List.countP_nil]; omega
theorem pm4 {α : Type} (l : List α) (a b c : α) : (l ++ [a, b, c]).Perm (a :: (l ++ [b, c])) := (pm3 l a b c).symm
theorem pm5 {α : Type} (l : List α) (a b c : α) : (a :: (l ++ [b, c])).Perm (b :: c :: a :: l) := L7 fun p => by simp only [List.countP_append, List.countP_cons, List.countP_nil]; omega
theorem pm6 {α : Type} (l : List α) (a b c : α) : (b :: c :: a :: l).Perm ((a :: l) ++ [b, c]) := L7 fun p => by simp only [List.countP_append, List.countP_cons, List.countP_nil]; omega
theorem pm7 {α : Type} (l : List α) (a b : α) : (a :: (l ++ [b])).Perm (l ++ [a, b]) := L7 fun p => by simp only [List.countP_append, List.countP_cons, List.countP_nil]; omega
theorem cq8 {α : Type} [El α] {A : Option Addr} {p : List α} {ca lo hi : Nat} {w : World} (h : (Row A (rows p)).P w) (hc : p.length ≤ ca) : (Row (cutA A ca lo (El.sz α)) (rows ((p.take hi).drop lo))).P w := by
  refine cut_row h (fun j u hj => ?_) (fun hne => ?_)
  · rw [← mT, ← hZ, List.getElem?_drop, List.getElem?_take] at hj
    split at hj
    · exact hj
    cases hj
  rcases Nat.lt_or_ge lo p.length with h | h
  · omega
  have : (p.take hi).drop lo = [] := List.drop_eq_nil_of_le (by rw [List.length_take]; omega); rw [this] at hne; exact absurd rfl hne
theorem wi_cut {α : Type} [El α] {b : Bx} {hp : Hp} {L : List Fact} {A : Option Addr} {p : List α} {ca : Nat} {w : World} (lo hi : Nat) (h : Row A (rows p) ∈ L) (hc : p.length ≤ ca) (hw : WI b w hp L) : WI b w hp (Row (cutA A ca lo (El.sz α)) (rows ((p.take hi).drop lo)) :: L) :=
  R3 hw (cq8 (hw.fs _ h) hc) (fun k hk => ⟨_, h, by
    obtain ⟨ad, e, hb⟩ := cut_fp hk; refine ⟨ad, e, hb, ?_⟩; obtain ⟨_, _, _, hne⟩ := hk; rintro h0
    apply hne
    rw [← mT, ← hZ, h0]
    simp⟩)
section
variable {c : Cx} {Q : Exit → Act → World → Prop} {fr : Fr} {hp : Hp} {L : List Fact} {ops : Array Oper} {rest : List Oper}
theorem ax4 {e : TypeId} {sz n cap : Nat} {A : Option Addr} {xs : List Value} {og : Hp} {x : Exit} (hG : Grow e sz A n cap xs og) (k : HQ c Q x fr [] (Row A xs :: L)) : HQ c Q x fr og L := fun a w ha hw => k a w ha (kS hG (by simpa using hw))
theorem zA {α : Type} [El α] {A : Option Addr} {p : List α} {ca : Nat} (lo hi : Nat) (h : Row A (rows p) ∈ L) (hc : p.length ≤ ca) (k : HL c ops Q rest fr hp (Row (cutA A ca lo (El.sz α)) (rows ((p.take hi).drop lo)) :: L)) : HL c ops Q rest fr hp L :=
  fun a w ha hw => k a w ha (wi_cut lo hi h hc hw)
end
/-! ### The rules -/
def MapAt (b : Bx) (hp : Hp) (L : List Fact) (g : Nat) (o : Obj) : Prop := ∀ w, WI b w hp L → w.heap[g]? = some o
section
variable {κ : Type} [DecidableEq κ] {enc : κ → Value} {kt e : TypeId}
theorem vP {b : Bx} {hp : Hp} {L : List Fact} {g : Nat} {o : Obj} (h : (g, o) ∈ hp) : MapAt b hp L g o := fun w hw => hw.own _ h
variable {c : Cx} {Q : Exit → Act → World → Prop} {fr : Fr} {hp : Hp} {L : List Fact} {ops : Array Oper} {rest : List Oper}
variable {d : Tmp} {ty : TypeId} {pos : String} {af : Array Edge}
theorem X6 {P : Program} {t : TypeId} (K : KeyC P kt enc) (ht : P.underlying t = some (.map kt e)) {g : Nat} {l : List (Ment κ)} {clk : Nat} {k : κ} {w : World} (hb : w.heap[g]? = some (mapO enc l clk)) (ok : Bool) :
    ((getM l k).isSome = true → (Instr.lookup t (.map (some g)) (enc k) ok).run P w = .ok (if ok then .tuple #[(getM l k).getD undef, .bool true] else (getM l k).getD undef) w) ∧
    ∀ z, (zeroValue e).run P w = .ok z w → getM l k = none → (Instr.lookup t (.map (some g)) (enc k) ok).run P w = .ok (if ok then .tuple #[z, .bool false] else z) w := by
  have hf := K.find k l w; have hc := fun b => K.chk b k w; unfold getM
  cases hr : findM k l 0 with
  | none =>
    rw [hr] at hf; refine ⟨fun h => by simp at h, fun z hz _ => ?_⟩
    simp [Instr.lookup, run_underlying ht, MapKept.run_getObj_map (show w.heap[g]? = some (.map _ _) from hb), hc, hf, hz]
  | some p =>
    obtain ⟨i, v⟩ := p; rw [hr] at hf; refine ⟨fun _ => ?_, fun z hz h => by simp at h⟩
    simp [Instr.lookup, run_underlying ht, MapKept.run_getObj_map (show w.heap[g]? = some (.map _ _) from hb), hc, hf]
theorem bx3 {t : TypeId} {x y : Operand} {g : Nat} {l : List (Ment κ)} {clk : Nat} {k : κ} {v : Value} (K : KeyC c.P kt enc) (hd : Nat.blt d c.n = true) (ht : c.P.underlying t = some (.map kt e)) (hx : ev fr x = some (.map (some g))) (hy : ev fr y = some (enc k)) (hm : MapAt c.b hp L g (mapO enc l clk))
    (hv : getM l k = some v) (kk : HL c ops Q rest ((d, v) :: fr) hp L) : HL c ops Q (⟨some d, .lookup t x y false, ty, pos, af, none⟩ :: rest) fr hp L :=
  n9 _ rfl rfl hd (fun a w ha hw => by
    have := (X6 (k := k) K ht (hm w hw) false).1 (by simp [hv]); simp only [hv, Option.getD_some, Bool.false_eq_true, if_false] at this
    simp only [execOp, ha.ev hx, ha.ev hy, Sem.run_bind, this, Result.andThen_ok, Sem.run_pure]) kk
theorem bx2 {t : TypeId} {x y : Operand} {g : Nat} {l : List (Ment κ)} {clk : Nat} {k : κ} {v : Value} (K : KeyC c.P kt enc) (hd : Nat.blt d c.n = true) (ht : c.P.underlying t = some (.map kt e)) (hx : ev fr x = some (.map (some g))) (hy : ev fr y = some (enc k)) (hm : MapAt c.b hp L g (mapO enc l clk))
    (hv : getM l k = some v) (kk : HL c ops Q rest ((d, .tuple #[v, .bool true]) :: fr) hp L) : HL c ops Q (⟨some d, .lookup t x y true, ty, pos, af, none⟩ :: rest) fr hp L :=
  n9 _ rfl rfl hd (fun a w ha hw => by
    have := (X6 (k := k) K ht (hm w hw) true).1 (by simp [hv]); simp only [hv, Option.getD_some, if_true] at this
    simp only [execOp, ha.ev hx, ha.ev hy, Sem.run_bind, this, Result.andThen_ok, Sem.run_pure]) kk
theorem aq6 {t : TypeId} {x y : Operand} {g : Nat} {l : List (Ment κ)} {clk : Nat} {k : κ} {z : Value} (K : KeyC c.P kt enc) (hd : Nat.blt d c.n = true) (ht : c.P.underlying t = some (.map kt e)) (hx : ev fr x = some (.map (some g))) (hy : ev fr y = some (enc k)) (hm : MapAt c.b hp L g (mapO enc l clk))
    (hz : ∀ w, (zeroValue e).run c.P w = .ok z w) (hv : getM l k = none) (kk : HL c ops Q rest ((d, .tuple #[z, .bool false]) :: fr) hp L) : HL c ops Q (⟨some d, .lookup t x y true, ty, pos, af, none⟩ :: rest) fr hp L :=
  n9 _ rfl rfl hd (fun a w ha hw => by
    have := (X6 (k := k) K ht (hm w hw) true).2 z (hz w) hv; simp only [if_true] at this
    simp only [execOp, ha.ev hx, ha.ev hy, Sem.run_bind, this, Result.andThen_ok, Sem.run_pure]) kk
theorem sI {k : κ} : ∀ (l : List (Ment κ)) (i j : Nat) (v : Value), findM k l i = some (j, v) → ∃ m p, j = i + m ∧ l[m]? = some p ∧ p.1 = k ∧ p.2.1 = v
  | [], i, j, v, h => by simp [findM] at h
  | p :: l, i, j, v, h => by
    rw [findM] at h
    split at h
    · rename_i e
      simp only [Option.some.injEq, Prod.mk.injEq] at h; exact ⟨0, p, by omega, rfl, e, h.2⟩
    obtain ⟨m, q, h1, h2, h3⟩ := sI l (i + 1) j v h; exact ⟨m + 1, q, by omega, by simpa using h2, h3⟩
omit [DecidableEq κ] in
theorem rR {l : List (Ment κ)} {i : Nat} {k : κ} {v : Value} {p : Ment κ} (hp : l[i]? = some p) :
    ((l.map (entOf enc)).toArray.modify i fun x => { x with key := enc k, val := v }) = ((l.modify i fun p => (k, v, p.2.2)).map (entOf enc)).toArray := by
  apply Array.ext'
  simp only [Array.toList_modify]
  apply List.ext_getElem?
  intro n; simp only [List.getElem?_modify, List.getElem?_map]
  split
  · cases hl : l[n]? <;> simp [entOf]
  simp
theorem kY {t : TypeId} {x y z : Operand} {g : Nat} {l : List (Ment κ)} {clk : Nat} {k : κ} {v : Value} {hp' : Hp} {o : Op} (K : KeyC c.P kt enc) (ho : o = .mapUpdate t x y z ∨ o = .insert t x y z) (ht : c.P.underlying t = some (.map kt e)) (hx : ev fr x = some (.map (some g))) (hy : ev fr y = some (enc k)) (hz : ev fr z = some v)
    (hpp : hp.Perm ((g, mapO enc l clk) :: hp')) (kk : HL c ops Q rest fr ((g, mapO enc (putM l k v clk) (clkM l k clk)) :: hp') L) : HL c ops Q (⟨none, o, ty, pos, af, none⟩ :: rest) fr hp L :=
  wA rfl rfl fun a w ha hw => by
    have hw' := hw.perm hpp; have hg := hw'.own (g, mapO enc l clk) (by simp); have hg' : w.heap[g]? = some (.map (l.map (entOf enc)).toArray clk) := hg; have hf := K.find k l w
    have hrun : (Instr.mapUpdate t (.map (some g)) (enc k) v).run c.P w = .ok () { w with heap := w.heap.setIfInBounds g (mapO enc (putM l k v clk) (clkM l k clk)) } := by
      unfold putM clkM
      cases hr : findM k l 0 with
      | none =>
        rw [hr] at hf; simp only [Instr.mapUpdate, Sem.run_bind, run_underlying ht, Result.andThen_ok, MapKept.run_getObj_map hg', K.chk, hf, MapKept.run_setObj_map _ hg']
        have : ((l.map (entOf enc)).toArray.push { key := enc k, val := v, born := clk }) = ((l ++ [(k, v, clk)]).map (entOf enc)).toArray := by
          apply Array.ext'; simp [entOf]
        rw [this]
        rfl
      | some p =>
        obtain ⟨i, u⟩ := p; rw [hr] at hf; obtain ⟨m, q, h1, h2, h3, h4⟩ := sI l 0 i u hr; have e1 : i = m := by omega
        subst e1
        have e2 : (((l.map (entOf enc)).toArray[i]?).map (·.key)).getD (enc k) = enc k := by
          simp [h2, entOf, h3]
        simp only [Instr.mapUpdate, Sem.run_bind, run_underlying ht, Result.andThen_ok, MapKept.run_getObj_map hg', K.chk, hf, e2, K.stays, MapKept.run_setObj_map _ hg', rR h2]
        rfl
    refine ⟨{ w with heap := w.heap.setIfInBounds g (mapO enc (putM l k v clk) (clkM l k clk)) }, _, L, ?_, hw'.write (o' := mapO enc (putM l k v clk) (clkM l k clk)) ⟨rfl, rfl, rfl, by simp, fun j hj hn => by simp only [List.mem_singleton] at hn; simp [Array.getElem?_setIfInBounds_ne (Ne.symm hn)], Nat.le_refl _⟩ ?_, kk⟩
    · rcases ho with rfl | rfl <;> simp only [execOp, ha.ev hx, ha.ev hy, ha.ev hz, Sem.run_bind, hrun, Result.andThen_ok, Sem.run_pure]
    have := C8 hg; simp only at this
    simp [this]
omit [DecidableEq κ] in
theorem rE (enc : κ → Value) {t : TypeId} (hd : Nat.blt d c.n = true) (k : ∀ g, HL c ops Q rest ((d, .map (some g)) :: fr) ((g, mapO enc [] 0) :: hp) L) : HL c ops Q (⟨some d, .makeMap t none, ty, pos, af, none⟩ :: rest) fr hp L :=
  aq4 hd k
theorem kM {k : κ} : ∀ (l : List (Ment κ)) (i : Nat), findM k l (i + 1) = (findM k l i).map fun p => (p.1 + 1, p.2)
  | [], i => rfl
  | p :: l, i => by
    simp only [findM]
    split
    · rfl
    exact kM l (i + 1)
theorem bX (p : Ment κ) (l : List (Ment κ)) (k : κ) : getM (p :: l) k = if p.1 = k then some p.2.1 else getM l k := by
  unfold getM; simp only [findM]
  split
  · rfl
  rw [kM]; cases findM k l 0 <;> rfl
theorem cq0 (l : List (Ment κ)) (k k' : κ) (v : Value) (clk : Nat) : getM (putM l k v clk) k' = if k = k' then some v else getM l k' := by
  induction l with
  | nil => simp [putM, findM, bX, getM]
  | cons p l ih =>
    by_cases h : p.1 = k
    · have : putM (p :: l) k v clk = (k, v, p.2.2) :: l := by simp [putM, findM, h]
      rw [this, bX, bX]; simp only [h]
      split <;> rfl
    have : putM (p :: l) k v clk = p :: putM l k v clk := by
      simp only [putM, findM, h, if_false]; rw [kM]
      cases hf : findM k l 0 with
      | none => simp
      | some q => simp
    rw [this, bX, ih, bX]
    split
    · rename_i e
      rw [if_neg (fun e' => h (e.trans e'.symm))]
    rfl
end
end Go.W
end
