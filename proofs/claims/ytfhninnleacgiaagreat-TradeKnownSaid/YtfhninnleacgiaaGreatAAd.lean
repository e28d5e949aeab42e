/- Texts of this claim, one behind another. -/
import Derived.Test.YtfhninnleacgiaaGreatProg
import Derived.KernelRfl
import Derived.Laws.StructEq
import Derived.Laws.IdiomStrings
import Derived.MapKept
import Derived.Laws.Rows
import Derived.Deep.AppendSrc
import Derived.Deep.Upon
import Derived.Test.YtfhninnleacgiaaGreatAAc
set_option linter.unusedVariables false
set_option linter.unusedSimpArgs false
section
namespace Go.Proofs.YtfhninnleacgiaaGreat
open Go Go.W
theorem mixed : Tryz.prog.follows .mixedOrders = true := by kernel_rfl
namespace F
abbrev gQ : Nat := 3
theorem pA : Tryz.prog.funcs[gQ]? = some Tryz.f3 := Tryz.func3
abbrev Y5 : Nat := 4
theorem dF : Tryz.prog.funcs[Y5]? = some Tryz.f4 := Tryz.func4
theorem l4 : Callable Tryz.prog Y5 := ⟨⟨_, Tryz.func4, by kernel_rfl, by kernel_rfl⟩⟩
abbrev vD : Nat := 5
theorem bx1 : Tryz.prog.funcs[vD]? = some Tryz.f5 := Tryz.func5
theorem u4 : Callable Tryz.prog vD := ⟨⟨_, Tryz.func5, by kernel_rfl, by kernel_rfl⟩⟩
abbrev dG : Nat := 6
theorem tF : Tryz.prog.funcs[dG]? = some Tryz.f6 := Tryz.func6
theorem rZ : Callable Tryz.prog dG := ⟨⟨_, Tryz.func6, by kernel_rfl, by kernel_rfl⟩⟩
abbrev J7 : Nat := 7
theorem wL : Tryz.prog.funcs[J7]? = some Tryz.f7 := Tryz.func7
theorem L9 : Callable Tryz.prog J7 := ⟨⟨_, Tryz.func7, by kernel_rfl, by kernel_rfl⟩⟩
abbrev bE : Nat := 8
theorem yH : Tryz.prog.funcs[bE]? = some Tryz.f8 := Tryz.func8
theorem mQ : Callable Tryz.prog bE := ⟨⟨_, Tryz.func8, by kernel_rfl, by kernel_rfl⟩⟩
abbrev Q2 : Nat := 9
theorem wJ : Tryz.prog.funcs[Q2]? = some Tryz.f9 := Tryz.func9
theorem bF : Callable Tryz.prog Q2 := ⟨⟨_, Tryz.func9, by kernel_rfl, by kernel_rfl⟩⟩
abbrev bP : Nat := 10
theorem zD : Tryz.prog.funcs[bP]? = some Tryz.f10 := Tryz.func10
theorem B9 : Callable Tryz.prog bP := ⟨⟨_, Tryz.func10, by kernel_rfl, by kernel_rfl⟩⟩
abbrev Y2 : Nat := 11
theorem wF : Tryz.prog.funcs[Y2]? = some Tryz.f11 := Tryz.func11
theorem kE : Callable Tryz.prog Y2 := ⟨⟨_, Tryz.func11, by kernel_rfl, by kernel_rfl⟩⟩
abbrev M7 : Nat := 12
theorem uM : Tryz.prog.funcs[M7]? = some Tryz.f12 := Tryz.func12
theorem Z6 : Callable Tryz.prog M7 := ⟨⟨_, Tryz.func12, by kernel_rfl, by kernel_rfl⟩⟩
abbrev O1 : Nat := 13
theorem sY : Tryz.prog.funcs[O1]? = some Tryz.f13 := Tryz.func13
theorem dU : Callable Tryz.prog O1 := ⟨⟨_, Tryz.func13, by kernel_rfl, by kernel_rfl⟩⟩
abbrev Y6 : Nat := 14
theorem wQ : Tryz.prog.funcs[Y6]? = some Tryz.f14 := Tryz.func14
theorem S9 : Callable Tryz.prog Y6 := ⟨⟨_, Tryz.func14, by kernel_rfl, by kernel_rfl⟩⟩
abbrev cD : Nat := 15
theorem wG : Tryz.prog.funcs[cD]? = some Tryz.f15 := Tryz.func15
theorem uK : Callable Tryz.prog cD := ⟨⟨_, Tryz.func15, by kernel_rfl, by kernel_rfl⟩⟩
abbrev S3 : Nat := 16
theorem uL : Tryz.prog.funcs[S3]? = some Tryz.f16 := Tryz.func16
theorem iW : Callable Tryz.prog S3 := ⟨⟨_, Tryz.func16, by kernel_rfl, by kernel_rfl⟩⟩
abbrev P2 : Nat := 17
theorem yI : Tryz.prog.funcs[P2]? = some Tryz.f17 := Tryz.func17
theorem X6 : Callable Tryz.prog P2 := ⟨⟨_, Tryz.func17, by kernel_rfl, by kernel_rfl⟩⟩
abbrev dS : Nat := 18
theorem zU : Tryz.prog.funcs[dS]? = some Tryz.f18 := Tryz.func18
theorem qB : Callable Tryz.prog dS := ⟨⟨_, Tryz.func18, by kernel_rfl, by kernel_rfl⟩⟩
abbrev L8 : Nat := 19
theorem wI : Tryz.prog.funcs[L8]? = some Tryz.f19 := Tryz.func19
theorem S1 : Callable Tryz.prog L8 := ⟨⟨_, Tryz.func19, by kernel_rfl, by kernel_rfl⟩⟩
abbrev Q1 : Nat := 20
theorem wH : Tryz.prog.funcs[Q1]? = some Tryz.f20 := Tryz.func20
theorem bD : Callable Tryz.prog Q1 := ⟨⟨_, Tryz.func20, by kernel_rfl, by kernel_rfl⟩⟩
abbrev hX : Nat := 21
theorem yJ : Tryz.prog.funcs[hX]? = some Tryz.f21 := Tryz.func21
theorem wK : Callable Tryz.prog hX := ⟨⟨_, Tryz.func21, by kernel_rfl, by kernel_rfl⟩⟩
abbrev cB : Nat := 22
theorem wD : Tryz.prog.funcs[cB]? = some Tryz.f22 := Tryz.func22
theorem uJ : Callable Tryz.prog cB := ⟨⟨_, Tryz.func22, by kernel_rfl, by kernel_rfl⟩⟩
abbrev aP : Nat := 23
theorem vE : Tryz.prog.funcs[aP]? = some Tryz.f23 := Tryz.func23
theorem tG : Callable Tryz.prog aP := ⟨⟨_, Tryz.func23, by kernel_rfl, by kernel_rfl⟩⟩
abbrev rY : Nat := 24
theorem aq7 : Tryz.prog.funcs[rY]? = some Tryz.f24 := Tryz.func24
theorem I3 : Callable Tryz.prog rY := ⟨⟨_, Tryz.func24, by kernel_rfl, by kernel_rfl⟩⟩
abbrev X7 : Nat := 25
theorem sX : Tryz.prog.funcs[X7]? = some Tryz.f25 := Tryz.func25
theorem rQ : Callable Tryz.prog X7 := ⟨⟨_, Tryz.func25, by kernel_rfl, by kernel_rfl⟩⟩
abbrev kT : Nat := 26
theorem wO : Tryz.prog.funcs[kT]? = some Tryz.f26 := Tryz.func26
theorem vC : Callable Tryz.prog kT := ⟨⟨_, Tryz.func26, by kernel_rfl, by kernel_rfl⟩⟩
abbrev cG : Nat := 27
theorem wP : Tryz.prog.funcs[cG]? = some Tryz.f27 := Tryz.func27
theorem vF : Callable Tryz.prog cG := ⟨⟨_, Tryz.func27, by kernel_rfl, by kernel_rfl⟩⟩
abbrev kB : Nat := 28
theorem wB : Tryz.prog.funcs[kB]? = some Tryz.f28 := Tryz.func28
theorem jY : Callable Tryz.prog kB := ⟨⟨_, Tryz.func28, by kernel_rfl, by kernel_rfl⟩⟩
abbrev kC : Nat := 29
theorem wC : Tryz.prog.funcs[kC]? = some Tryz.f29 := Tryz.func29
theorem C6 : Callable Tryz.prog kC := ⟨⟨_, Tryz.func29, by kernel_rfl, by kernel_rfl⟩⟩
abbrev cT : Nat := 30
theorem sW : Tryz.prog.funcs[cT]? = some Tryz.f30 := Tryz.func30
theorem v4 : Callable Tryz.prog cT := ⟨⟨_, Tryz.func30, by kernel_rfl, by kernel_rfl⟩⟩
abbrev Y8 : Nat := 31
theorem pR : Tryz.prog.funcs[Y8]? = some Tryz.f31 := Tryz.func31
theorem bB : Callable Tryz.prog Y8 := ⟨⟨_, Tryz.func31, by kernel_rfl, by kernel_rfl⟩⟩
abbrev R8 : Nat := 32
theorem lY : Tryz.prog.funcs[R8]? = some Tryz.f32 := Tryz.func32
theorem L7 : Callable Tryz.prog R8 := ⟨⟨_, Tryz.func32, by kernel_rfl, by kernel_rfl⟩⟩
abbrev rO : Nat := 33
theorem zT : Tryz.prog.funcs[rO]? = some Tryz.f33 := Tryz.func33
theorem K0 : Callable Tryz.prog rO := ⟨⟨_, Tryz.func33, by kernel_rfl, by kernel_rfl⟩⟩
abbrev R7 : Nat := 34
theorem lV : Tryz.prog.funcs[R7]? = some Tryz.f34 := Tryz.func34
theorem Y1 : Callable Tryz.prog R7 := ⟨⟨_, Tryz.func34, by kernel_rfl, by kernel_rfl⟩⟩
abbrev P0 : Nat := 35
theorem jW : Tryz.prog.funcs[P0]? = some Tryz.f35 := Tryz.func35
theorem jE : Callable Tryz.prog P0 := ⟨⟨_, Tryz.func35, by kernel_rfl, by kernel_rfl⟩⟩
abbrev V6 : Nat := 36
theorem mV : Tryz.prog.funcs[V6]? = some Tryz.f36 := Tryz.func36
theorem aH : Callable Tryz.prog V6 := ⟨⟨_, Tryz.func36, by kernel_rfl, by kernel_rfl⟩⟩
abbrev O9 : Nat := 37
theorem jU : Tryz.prog.funcs[O9]? = some Tryz.f37 := Tryz.func37
theorem H1 : Callable Tryz.prog O9 := ⟨⟨_, Tryz.func37, by kernel_rfl, by kernel_rfl⟩⟩
abbrev Z0 : Nat := 38
theorem pT : Tryz.prog.funcs[Z0]? = some Tryz.f38 := Tryz.func38
theorem mZ : Callable Tryz.prog Z0 := ⟨⟨_, Tryz.func38, by kernel_rfl, by kernel_rfl⟩⟩
abbrev bC : Nat := 39
theorem rN : Tryz.prog.funcs[bC]? = some Tryz.f39 := Tryz.func39
theorem L3 : Callable Tryz.prog bC := ⟨⟨_, Tryz.func39, by kernel_rfl, by kernel_rfl⟩⟩
abbrev M1 : Nat := 40
theorem iC : Tryz.prog.funcs[M1]? = some Tryz.f40 := Tryz.func40
theorem gG : Callable Tryz.prog M1 := ⟨⟨_, Tryz.func40, by kernel_rfl, by kernel_rfl⟩⟩
abbrev V7 : Nat := 41
theorem mW : Tryz.prog.funcs[V7]? = some Tryz.f41 := Tryz.func41
theorem lU : Callable Tryz.prog V7 := ⟨⟨_, Tryz.func41, by kernel_rfl, by kernel_rfl⟩⟩
abbrev Z2 : Nat := 42
theorem pV : Tryz.prog.funcs[Z2]? = some Tryz.f42 := Tryz.func42
theorem nB : Callable Tryz.prog Z2 := ⟨⟨_, Tryz.func42, by kernel_rfl, by kernel_rfl⟩⟩
abbrev V5 : Nat := 43
theorem mU : Tryz.prog.funcs[V5]? = some Tryz.f43 := Tryz.func43
theorem lS : Callable Tryz.prog V5 := ⟨⟨_, Tryz.func43, by kernel_rfl, by kernel_rfl⟩⟩
abbrev iG : Nat := 44
theorem uO : Tryz.prog.funcs[iG]? = some Tryz.f44 := Tryz.func44
theorem tB : Callable Tryz.prog iG := ⟨⟨_, Tryz.func44, by kernel_rfl, by kernel_rfl⟩⟩
abbrev M0 : Nat := 45
theorem iA : Tryz.prog.funcs[M0]? = some Tryz.f45 := Tryz.func45
theorem dY : Callable Tryz.prog M0 := ⟨⟨_, Tryz.func45, by kernel_rfl, by kernel_rfl⟩⟩
abbrev O6 : Nat := 46
theorem qD : Tryz.prog.funcs[O6]? = some Tryz.f46 := Tryz.func46
theorem nJ : Callable Tryz.prog O6 := ⟨⟨_, Tryz.func46, by kernel_rfl, by kernel_rfl⟩⟩
abbrev N7 : Nat := 47
theorem jO : Tryz.prog.funcs[N7]? = some Tryz.f47 := Tryz.func47
theorem iF : Callable Tryz.prog N7 := ⟨⟨_, Tryz.func47, by kernel_rfl, by kernel_rfl⟩⟩
abbrev V8 : Nat := 48
theorem mY : Tryz.prog.funcs[V8]? = some Tryz.f48 := Tryz.func48
theorem aI : Callable Tryz.prog V8 := ⟨⟨_, Tryz.func48, by kernel_rfl, by kernel_rfl⟩⟩
abbrev S7 : Nat := 49
theorem mJ : Tryz.prog.funcs[S7]? = some Tryz.f49 := Tryz.func49
theorem kK : Callable Tryz.prog S7 := ⟨⟨_, Tryz.func49, by kernel_rfl, by kernel_rfl⟩⟩
abbrev W1 : Nat := 50
theorem nH : Tryz.prog.funcs[W1]? = some Tryz.f50 := Tryz.func50
theorem mA : Callable Tryz.prog W1 := ⟨⟨_, Tryz.func50, by kernel_rfl, by kernel_rfl⟩⟩
abbrev Z5 : Nat := 51
theorem pY : Tryz.prog.funcs[Z5]? = some Tryz.f51 := Tryz.func51
theorem nG : Callable Tryz.prog Z5 := ⟨⟨_, Tryz.func51, by kernel_rfl, by kernel_rfl⟩⟩
abbrev P1 : Nat := 52
theorem jX : Tryz.prog.funcs[P1]? = some Tryz.f52 := Tryz.func52
theorem jG : Callable Tryz.prog P1 := ⟨⟨_, Tryz.func52, by kernel_rfl, by kernel_rfl⟩⟩
abbrev Z3 : Nat := 53
theorem pW : Tryz.prog.funcs[Z3]? = some Tryz.f53 := Tryz.func53
theorem nD : Callable Tryz.prog Z3 := ⟨⟨_, Tryz.func53, by kernel_rfl, by kernel_rfl⟩⟩
abbrev W4 : Nat := 54
theorem nK : Tryz.prog.funcs[W4]? = some Tryz.f54 := Tryz.func54
theorem mF : Callable Tryz.prog W4 := ⟨⟨_, Tryz.func54, by kernel_rfl, by kernel_rfl⟩⟩
abbrev P6 : Nat := 55
theorem kH : Tryz.prog.funcs[P6]? = some Tryz.f55 := Tryz.func55
theorem jL : Callable Tryz.prog P6 := ⟨⟨_, Tryz.func55, by kernel_rfl, by kernel_rfl⟩⟩
abbrev R4 : Nat := 56
theorem lT : Tryz.prog.funcs[R4]? = some Tryz.f56 := Tryz.func56
theorem jT : Callable Tryz.prog R4 := ⟨⟨_, Tryz.func56, by kernel_rfl, by kernel_rfl⟩⟩
abbrev Y9 : Nat := 57
theorem pS : Tryz.prog.funcs[Y9]? = some Tryz.f57 := Tryz.func57
theorem mX : Callable Tryz.prog Y9 := ⟨⟨_, Tryz.func57, by kernel_rfl, by kernel_rfl⟩⟩
abbrev Z1 : Nat := 58
theorem pU : Tryz.prog.funcs[Z1]? = some Tryz.f58 := Tryz.func58
theorem nA : Callable Tryz.prog Z1 := ⟨⟨_, Tryz.func58, by kernel_rfl, by kernel_rfl⟩⟩
abbrev A6 : Nat := 59
theorem aJ : Tryz.prog.funcs[A6]? = some Tryz.f59 := Tryz.func59
theorem Y0 : Callable Tryz.prog A6 := ⟨⟨_, Tryz.func59, by kernel_rfl, by kernel_rfl⟩⟩
abbrev W0 : Nat := 60
theorem nF : Tryz.prog.funcs[W0]? = some Tryz.f60 := Tryz.func60
theorem w6 : Callable Tryz.prog W0 := ⟨⟨_, Tryz.func60, by kernel_rfl, by kernel_rfl⟩⟩
abbrev V3 : Nat := 61
theorem mT : Tryz.prog.funcs[V3]? = some Tryz.f61 := Tryz.func61
theorem aG : Callable Tryz.prog V3 := ⟨⟨_, Tryz.func61, by kernel_rfl, by kernel_rfl⟩⟩
abbrev jS : Nat := 62
theorem wA : Tryz.prog.funcs[jS]? = some Tryz.f62 := Tryz.func62
theorem uI : Callable Tryz.prog jS := ⟨⟨_, Tryz.func62, by kernel_rfl, by kernel_rfl⟩⟩
abbrev S4 : Nat := 63
theorem mE : Tryz.prog.funcs[S4]? = some Tryz.f63 := Tryz.func63
theorem kG : Callable Tryz.prog S4 := ⟨⟨_, Tryz.func63, by kernel_rfl, by kernel_rfl⟩⟩
abbrev Z4 : Nat := 64
theorem pX : Tryz.prog.funcs[Z4]? = some Tryz.f64 := Tryz.func64
theorem C2 : Callable Tryz.prog Z4 := ⟨⟨_, Tryz.func64, by kernel_rfl, by kernel_rfl⟩⟩
abbrev S5 : Nat := 65
theorem mG : Tryz.prog.funcs[S5]? = some Tryz.f65 := Tryz.func65
theorem kI : Callable Tryz.prog S5 := ⟨⟨_, Tryz.func65, by kernel_rfl, by kernel_rfl⟩⟩
abbrev I8 : Nat := 66
theorem bK : Tryz.prog.funcs[I8]? = some Tryz.f66 := Tryz.func66
theorem aO : Callable Tryz.prog I8 := ⟨⟨_, Tryz.func66, by kernel_rfl, by kernel_rfl⟩⟩
abbrev E3 : Nat := 67
theorem lW : Tryz.prog.funcs[E3]? = some Tryz.f67 := Tryz.func67
theorem jV : Callable Tryz.prog E3 := ⟨⟨_, Tryz.func67, by kernel_rfl, by kernel_rfl⟩⟩
abbrev dB : Nat := 68
theorem tA : Tryz.prog.funcs[dB]? = some Tryz.f68 := Tryz.func68
theorem rR : Callable Tryz.prog dB := ⟨⟨_, Tryz.func68, by kernel_rfl, by kernel_rfl⟩⟩
abbrev G3 : Nat := 69
theorem Y4 : Tryz.prog.funcs[G3]? = some Tryz.f69 := Tryz.func69
theorem q8 : Callable Tryz.prog G3 := ⟨⟨_, Tryz.func69, by kernel_rfl, by kernel_rfl⟩⟩
abbrev K1 : Nat := 70
theorem cX : Tryz.prog.funcs[K1]? = some Tryz.f70 := Tryz.func70
theorem bV : Callable Tryz.prog K1 := ⟨⟨_, Tryz.func70, by kernel_rfl, by kernel_rfl⟩⟩
abbrev E8 : Nat := 71
theorem W3 : Tryz.prog.funcs[E8]? = some Tryz.f71 := Tryz.func71
theorem U8 : Callable Tryz.prog E8 := ⟨⟨_, Tryz.func71, by kernel_rfl, by kernel_rfl⟩⟩
abbrev dE : Nat := 72
theorem tE : Tryz.prog.funcs[dE]? = some Tryz.f72 := Tryz.func72
theorem gO : Callable Tryz.prog dE := ⟨⟨_, Tryz.func72, by kernel_rfl, by kernel_rfl⟩⟩
abbrev D8 : Nat := 73
theorem U2 : Tryz.prog.funcs[D8]? = some Tryz.f73 := Tryz.func73
theorem Q9 : Callable Tryz.prog D8 := ⟨⟨_, Tryz.func73, by kernel_rfl, by kernel_rfl⟩⟩
abbrev mS : Nat := 74
theorem yG : Tryz.prog.funcs[mS]? = some Tryz.f74 := Tryz.func74
theorem mP : Callable Tryz.prog mS := ⟨⟨_, Tryz.func74, by kernel_rfl, by kernel_rfl⟩⟩
abbrev N6 : Nat := 75
theorem jN : Tryz.prog.funcs[N6]? = some Tryz.f75 := Tryz.func75
theorem iE : Callable Tryz.prog N6 := ⟨⟨_, Tryz.func75, by kernel_rfl, by kernel_rfl⟩⟩
abbrev D5 : Nat := 76
theorem kA : Tryz.prog.funcs[D5]? = some Tryz.f76 := Tryz.func76
theorem jI : Callable Tryz.prog D5 := ⟨⟨_, Tryz.func76, by kernel_rfl, by kernel_rfl⟩⟩
abbrev M2 : Nat := 77
theorem iD : Tryz.prog.funcs[M2]? = some Tryz.f77 := Tryz.func77
theorem gJ : Callable Tryz.prog M2 := ⟨⟨_, Tryz.func77, by kernel_rfl, by kernel_rfl⟩⟩
abbrev E4 : Nat := 78
theorem lZ : Tryz.prog.funcs[E4]? = some Tryz.f78 := Tryz.func78
theorem jZ : Callable Tryz.prog E4 := ⟨⟨_, Tryz.func78, by kernel_rfl, by kernel_rfl⟩⟩
abbrev aB : Nat := 79
theorem qG : Tryz.prog.funcs[aB]? = some Tryz.f79 := Tryz.func79
theorem nL : Callable Tryz.prog aB := ⟨⟨_, Tryz.func79, by kernel_rfl, by kernel_rfl⟩⟩
abbrev H3 : Nat := 80
theorem aM : Tryz.prog.funcs[H3]? = some Tryz.f80 := Tryz.func80
theorem aA : Callable Tryz.prog H3 := ⟨⟨_, Tryz.func80, by kernel_rfl, by kernel_rfl⟩⟩
abbrev dD : Nat := 81
theorem tD : Tryz.prog.funcs[dD]? = some Tryz.f81 := Tryz.func81
theorem rW : Callable Tryz.prog dD := ⟨⟨_, Tryz.func81, by kernel_rfl, by kernel_rfl⟩⟩
abbrev X5 : Nat := 82
theorem sV : Tryz.prog.funcs[X5]? = some Tryz.f82 := Tryz.func82
theorem rM : Callable Tryz.prog X5 := ⟨⟨_, Tryz.func82, by kernel_rfl, by kernel_rfl⟩⟩
abbrev O5 : Nat := 83
theorem pQ : Tryz.prog.funcs[O5]? = some Tryz.f83 := Tryz.func83
theorem bA : Callable Tryz.prog O5 := ⟨⟨_, Tryz.func83, by kernel_rfl, by kernel_rfl⟩⟩
abbrev D7 : Nat := 84
theorem U1 : Tryz.prog.funcs[D7]? = some Tryz.f84 := Tryz.func84
theorem Q8 : Callable Tryz.prog D7 := ⟨⟨_, Tryz.func84, by kernel_rfl, by kernel_rfl⟩⟩
abbrev K8 : Nat := 85
theorem gE : Tryz.prog.funcs[K8]? = some Tryz.f85 := Tryz.func85
theorem cZ : Callable Tryz.prog K8 := ⟨⟨_, Tryz.func85, by kernel_rfl, by kernel_rfl⟩⟩
abbrev B5 : Nat := 86
theorem L5 : Tryz.prog.funcs[B5]? = some Tryz.f86 := Tryz.func86
theorem Z9 : Callable Tryz.prog B5 := ⟨⟨_, Tryz.func86, by kernel_rfl, by kernel_rfl⟩⟩
abbrev C3 : Nat := 87
theorem N5 : Tryz.prog.funcs[C3]? = some Tryz.f87 := Tryz.func87
theorem N0 : Callable Tryz.prog C3 := ⟨⟨_, Tryz.func87, by kernel_rfl, by kernel_rfl⟩⟩
abbrev aC : Nat := 96
theorem qR : Tryz.prog.funcs[aC]? = some Tryz.f96 := Tryz.func96
theorem nZ : Callable Tryz.prog aC := ⟨⟨_, Tryz.func96, by kernel_rfl, by kernel_rfl⟩⟩
abbrev W5 : Nat := 98
theorem nM : Tryz.prog.funcs[W5]? = some Tryz.f98 := Tryz.func98
theorem mI : Callable Tryz.prog W5 := ⟨⟨_, Tryz.func98, by kernel_rfl, by kernel_rfl⟩⟩
abbrev S6 : Nat := 99
theorem mH : Tryz.prog.funcs[S6]? = some Tryz.f99 := Tryz.func99
theorem kJ : Callable Tryz.prog S6 := ⟨⟨_, Tryz.func99, by kernel_rfl, by kernel_rfl⟩⟩
abbrev D3 : Nat := 100
theorem Q7 : Tryz.prog.funcs[D3]? = some Tryz.f100 := Tryz.func100
theorem P5 : Callable Tryz.prog D3 := ⟨⟨_, Tryz.func100, by kernel_rfl, by kernel_rfl⟩⟩
abbrev iP : Nat := 106
theorem vP : Tryz.prog.funcs[iP]? = some Tryz.f106 := Tryz.func106
theorem tJ : Callable Tryz.prog iP := ⟨⟨_, Tryz.func106, by kernel_rfl, by kernel_rfl⟩⟩
abbrev B1 : Nat := 110
theorem C7 : Tryz.prog.funcs[B1]? = some Tryz.f110 := Tryz.func110
theorem nY : Callable Tryz.prog B1 := ⟨⟨_, Tryz.func110, by kernel_rfl, by kernel_rfl⟩⟩
abbrev dK : Nat := 120
theorem tI : Tryz.prog.funcs[dK]? = some Tryz.f120 := Tryz.func120
theorem sH : Callable Tryz.prog dK := ⟨⟨_, Tryz.func120, by kernel_rfl, by kernel_rfl⟩⟩
abbrev G7 : Nat := 139
theorem kD : Tryz.prog.funcs[G7]? = some Tryz.f139 := Tryz.func139
theorem jJ : Callable Tryz.prog G7 := ⟨⟨_, Tryz.func139, by kernel_rfl, by kernel_rfl⟩⟩
abbrev G6 : Nat := 140
theorem jR : Tryz.prog.funcs[G6]? = some Tryz.f140 := Tryz.func140
theorem iY : Callable Tryz.prog G6 := ⟨⟨_, Tryz.func140, by kernel_rfl, by kernel_rfl⟩⟩
abbrev J0 : Nat := 141
theorem nE : Tryz.prog.funcs[J0]? = some Tryz.f141 := Tryz.func141
theorem lX : Callable Tryz.prog J0 := ⟨⟨_, Tryz.func141, by kernel_rfl, by kernel_rfl⟩⟩
end F
namespace T
abbrev int : Nat := 3
theorem wX : Tryz.prog.underlying int = some (.int .i64) := Tryz.underlying3
theorem v6 : Sz Tryz.prog int 1 := by unfold Sz; kernel_rfl
theorem b2 : NoR Tryz.prog int := ⟨_, Tryz.underlying3, rfl⟩
abbrev bool : Nat := 4
abbrev u8 : Nat := 5
theorem u_u8 : Tryz.prog.underlying u8 = some (.int .u8) := Tryz.underlying5
abbrev string : Nat := 9
theorem I9 : Tryz.prog.underlying string = some (.string) := Tryz.underlying9
theorem z6 : Sz Tryz.prog string 1 := by unfold Sz; kernel_rfl
theorem j2 : NoR Tryz.prog string := ⟨_, Tryz.underlying9, rfl⟩
abbrev int32 : Nat := 21
abbrev lH : Nat := 22
theorem p8 : Tryz.prog.underlying lH = some (.slice 28) := Tryz.underlying22
theorem b5 : NoR Tryz.prog lH := ⟨_, Tryz.underlying22, rfl⟩
theorem vN : ElT Tryz.prog lH 28 2 24 := ElT.of (z := (.agg #[(.string ⟨#[]⟩), (.int .i64 0)])) Tryz.underlying22 (by kernel_rfl) rfl (by decide)
abbrev iU : Nat := 23
theorem m9 : Tryz.prog.underlying iU = some (.slice 31) := Tryz.underlying23
theorem cW : Sz Tryz.prog iU 1 := by unfold Sz; kernel_rfl
theorem a9 : NoR Tryz.prog iU := ⟨_, Tryz.underlying23, rfl⟩
theorem dJ : ElT Tryz.prog iU 31 4 56 := ElT.of (z := (.agg #[(.string ⟨#[]⟩), (.int .i64 0), (.int .i64 0), (.slice none 0 0)])) Tryz.underlying23 (by kernel_rfl) rfl (by decide)
abbrev i2 : Nat := 25
theorem d4 : Sz Tryz.prog i2 2 := by unfold Sz; kernel_rfl
theorem d6 : IsR Tryz.prog i2 := ⟨_, Tryz.underlying25, rfl⟩
abbrev r5 : Nat := 28
theorem t5 : Sz Tryz.prog r5 2 := by unfold Sz; kernel_rfl
theorem K6 : IsR Tryz.prog r5 := ⟨_, Tryz.underlying28, rfl⟩
abbrev ints : Nat := 29
theorem s5 : Tryz.prog.underlying ints = some (.slice 3) := Tryz.underlying29
theorem qC : Sz Tryz.prog ints 1 := by unfold Sz; kernel_rfl
theorem k6 : NoR Tryz.prog ints := ⟨_, Tryz.underlying29, rfl⟩
theorem iO : ElT Tryz.prog ints 3 1 8 := ElT.of (z := (.int .i64 0)) Tryz.underlying29 (by kernel_rfl) rfl (by decide)
abbrev i8 : Nat := 31
theorem l8 : Sz Tryz.prog i8 4 := by unfold Sz; kernel_rfl
theorem z7 : IsR Tryz.prog i8 := ⟨_, Tryz.underlying31, rfl⟩
abbrev api_Errno : Nat := 34
abbrev intss : Nat := 43
theorem bZ : Tryz.prog.underlying intss = some (.slice 29) := Tryz.underlying43
theorem hj6 : Sz Tryz.prog intss 1 := by unfold Sz; kernel_rfl
theorem vQ : NoR Tryz.prog intss := ⟨_, Tryz.underlying43, rfl⟩
theorem ax9 : ElT Tryz.prog intss 29 1 24 := ElT.of (z := (.slice none 0 0)) Tryz.underlying43 (by kernel_rfl) rfl (by decide)
abbrev strs : Nat := 49
theorem D2 : Tryz.prog.underlying strs = some (.slice 9) := Tryz.underlying49
theorem cz5 : ElT Tryz.prog strs 9 1 16 := ElT.of (z := (.string ⟨#[]⟩)) Tryz.underlying49 (by kernel_rfl) rfl (by decide)
abbrev vY : Nat := 59
theorem R2 : Tryz.prog.underlying vY = some (.slice 64) := Tryz.underlying59
theorem dI : ElT Tryz.prog vY 64 2 24 := ElT.of (z := (.agg #[(.string ⟨#[]⟩), (.int .i64 0)])) Tryz.underlying59 (by kernel_rfl) rfl (by decide)
abbrev vW : Nat := 64
theorem cE : Sz Tryz.prog vW 2 := by unfold Sz; kernel_rfl
theorem qI : IsR Tryz.prog vW := ⟨_, Tryz.underlying64, rfl⟩
abbrev P_trade_list : Nat := 65
abbrev cR : Nat := 70
theorem J2 : Sz Tryz.prog cR 1 := by unfold Sz; kernel_rfl
theorem G9 : NoR Tryz.prog cR := ⟨_, Tryz.underlying70, rfl⟩
abbrev O8 : Nat := 71
theorem H8 : Tryz.prog.underlying O8 = some (.slice 70) := Tryz.underlying71
theorem nI : Sz Tryz.prog O8 1 := by unfold Sz; kernel_rfl
theorem k7 : NoR Tryz.prog O8 := ⟨_, Tryz.underlying71, rfl⟩
theorem pH : ElT Tryz.prog O8 70 1 1 := ElT.of (z := (.int .u8 0)) Tryz.underlying71 (by kernel_rfl) rfl (by decide)
abbrev aS : Nat := 72
theorem r8 : Tryz.prog.underlying aS = some (.slice 77) := Tryz.underlying72
theorem Z8 : Sz Tryz.prog aS 1 := by unfold Sz; kernel_rfl
theorem b6 : NoR Tryz.prog aS := ⟨_, Tryz.underlying72, rfl⟩
theorem aD : ElT Tryz.prog aS 77 1 16 := ElT.of (z := .nilIface) Tryz.underlying72 (by kernel_rfl) rfl (by decide)
abbrev nC : Nat := 74
abbrev func_int_bool : Nat := 75
abbrev V9 : Nat := 77
theorem E1 : Sz Tryz.prog V9 1 := by unfold Sz; kernel_rfl
theorem C1 : NoR Tryz.prog V9 := ⟨_, Tryz.underlying77, rfl⟩
abbrev I7 : Nat := 79
theorem dW : Sz Tryz.prog I7 2 := by unfold Sz; kernel_rfl
abbrev zH : Nat := 95
abbrev I6 : Nat := 104
theorem M8 : Sz Tryz.prog I6 1 := by unfold Sz; kernel_rfl
abbrev L6 : Nat := 106
theorem uN : Sz Tryz.prog L6 1 := by unfold Sz; kernel_rfl
abbrev chan_int : Nat := 111
abbrev y0 : Nat := 113
theorem vZ : Tryz.prog.underlying y0 = some (.int .u8) := Tryz.underlying113
theorem v5 : Sz Tryz.prog y0 1 := by unfold Sz; kernel_rfl
theorem j6 : NoR Tryz.prog y0 := ⟨_, Tryz.underlying113, rfl⟩
abbrev V4 : Nat := 116
theorem J9 : Tryz.prog.underlying V4 = some (.array 6 113) := Tryz.underlying116
theorem u0 : Sz Tryz.prog V4 6 := by unfold Sz; kernel_rfl
theorem w8 : IsR Tryz.prog V4 := ⟨_, Tryz.underlying116, rfl⟩
abbrev cM : Nat := 118
theorem C5 : Tryz.prog.underlying cM = some (.slice 121) := Tryz.underlying118
theorem gU : NoR Tryz.prog cM := ⟨_, Tryz.underlying118, rfl⟩
theorem bT : ElT Tryz.prog cM 121 2 16 := ElT.of (z := (.agg #[(.int .i64 0), (.int .i64 0)])) Tryz.underlying118 (by kernel_rfl) rfl (by decide)
abbrev M5 : Nat := 121
theorem s8 : Sz Tryz.prog M5 2 := by unfold Sz; kernel_rfl
theorem A1 : IsR Tryz.prog M5 := ⟨_, Tryz.underlying121, rfl⟩
abbrev K9 : Nat := 124
theorem cV : Sz Tryz.prog K9 1 := by unfold Sz; kernel_rfl
theorem H0 : NoR Tryz.prog K9 := ⟨_, Tryz.underlying124, rfl⟩
abbrev cL : Nat := 132
theorem kF : Sz Tryz.prog cL 1 := by unfold Sz; kernel_rfl
theorem K3 : NoR Tryz.prog cL := ⟨_, Tryz.underlying132, rfl⟩
abbrev tY : Nat := 133
theorem dq0 : Tryz.prog.underlying tY = some (.slice 5) := Tryz.underlying133
theorem bj3 : Sz Tryz.prog tY 1 := by unfold Sz; kernel_rfl
theorem iQ : NoR Tryz.prog tY := ⟨_, Tryz.underlying133, rfl⟩
abbrev sZ : Nat := 135
abbrev uint : Nat := 142
theorem uH : Tryz.prog.underlying uint = some (.int .u64) := Tryz.underlying142
abbrev az6 : Nat := 145
abbrev bz0 : Nat := 147
abbrev bN : Nat := 152
theorem X9 : Tryz.prog.underlying bN = some (.map 121 4) := Tryz.underlying152
abbrev H4 : Nat := 153
theorem Z7 : Sz Tryz.prog H4 1 := by unfold Sz; kernel_rfl
theorem J6 : NoR Tryz.prog H4 := ⟨_, Tryz.underlying153, rfl⟩
abbrev P_uint8 : Nat := 155
abbrev cj7 : Nat := 157
abbrev uint32 : Nat := 165
abbrev u64 : Nat := 167
theorem u_u64 : Tryz.prog.underlying u64 = some (.int .u64) := Tryz.underlying167
abbrev gz2 : Nat := 182
abbrev P_int : Nat := 186
theorem k0 (p : Addr) (w : World) : (Instr.fieldAt 25 (.pointer (some p)) 0).run Tryz.prog w = .ok (.pointer (some (p.add 0))) w := by kernel_rfl
theorem j0 (p : Addr) (w : World) : (Instr.fieldAt 25 (.pointer (some p)) 1).run Tryz.prog w = .ok (.pointer (some (p.add 1))) w := by kernel_rfl
theorem v8 (p : Addr) (w : World) : (Instr.fieldAt 28 (.pointer (some p)) 0).run Tryz.prog w = .ok (.pointer (some (p.add 0))) w := by kernel_rfl
theorem v7 (p : Addr) (w : World) : (Instr.fieldAt 28 (.pointer (some p)) 1).run Tryz.prog w = .ok (.pointer (some (p.add 1))) w := by kernel_rfl
theorem n8 (p : Addr) (w : World) : (Instr.fieldAt 31 (.pointer (some p)) 0).run Tryz.prog w = .ok (.pointer (some (p.add 0))) w := by kernel_rfl
theorem p9 (p : Addr) (w : World) : (Instr.fieldAt 31 (.pointer (some p)) 1).run Tryz.prog w = .ok (.pointer (some (p.add 1))) w := by kernel_rfl
theorem n4 (p : Addr) (w : World) : (Instr.fieldAt 31 (.pointer (some p)) 2).run Tryz.prog w = .ok (.pointer (some (p.add 2))) w := by kernel_rfl
theorem r0 (p : Addr) (w : World) : (Instr.fieldAt 31 (.pointer (some p)) 3).run Tryz.prog w = .ok (.pointer (some (p.add 3))) w := by kernel_rfl
theorem l7 (p : Addr) (w : World) : (Instr.fieldAt 74 (.pointer (some p)) 0).run Tryz.prog w = .ok (.pointer (some (p.add 0))) w := by kernel_rfl
theorem u7 (p : Addr) (w : World) : (Instr.fieldAt 74 (.pointer (some p)) 1).run Tryz.prog w = .ok (.pointer (some (p.add 2))) w := by kernel_rfl
theorem j9 (p : Addr) (w : World) : (Instr.fieldAt 74 (.pointer (some p)) 2).run Tryz.prog w = .ok (.pointer (some (p.add 3))) w := by kernel_rfl
theorem bS (p : Addr) (w : World) : (Instr.fieldAt 79 (.pointer (some p)) 0).run Tryz.prog w = .ok (.pointer (some (p.add 0))) w := by kernel_rfl
theorem bR (p : Addr) (w : World) : (Instr.fieldAt 79 (.pointer (some p)) 1).run Tryz.prog w = .ok (.pointer (some (p.add 1))) w := by kernel_rfl
theorem B0 (p : Addr) (w : World) : (Instr.fieldAt 104 (.pointer (some p)) 0).run Tryz.prog w = .ok (.pointer (some (p.add 0))) w := by kernel_rfl
theorem N3 (p : Addr) (w : World) : (Instr.fieldAt 106 (.pointer (some p)) 0).run Tryz.prog w = .ok (.pointer (some (p.add 0))) w := by kernel_rfl
theorem C0 (p : Addr) (w : World) : (Instr.fieldAt 121 (.pointer (some p)) 0).run Tryz.prog w = .ok (.pointer (some (p.add 0))) w := by kernel_rfl
theorem J5 (p : Addr) (w : World) : (Instr.fieldAt 121 (.pointer (some p)) 1).run Tryz.prog w = .ok (.pointer (some (p.add 1))) w := by kernel_rfl
theorem I5 (p : Addr) (w : World) : (Instr.fieldAt 135 (.pointer (some p)) 0).run Tryz.prog w = .ok (.pointer (some (p.add 0))) w := by kernel_rfl
theorem I4 (p : Addr) (w : World) : (Instr.fieldAt 135 (.pointer (some p)) 1).run Tryz.prog w = .ok (.pointer (some (p.add 1))) w := by kernel_rfl
theorem v9 (w : World) : (Instr.alloc 25 true (.tuple #[])).run Tryz.prog w = .ok (.pointer (some ⟨w.heap.size, 0, none⟩)) (w.alloc (.cells #[(.slice none 0 0), (.slice none 0 0)] 25 (0, 0))) := by kernel_rfl
theorem iS (w : World) : (Instr.alloc 28 true (.tuple #[])).run Tryz.prog w = .ok (.pointer (some ⟨w.heap.size, 0, none⟩)) (w.alloc (.cells #[(.string ⟨#[]⟩), (.int .i64 0)] 28 (0, 0))) := by kernel_rfl
theorem D1 (w : World) : (Instr.alloc 31 true (.tuple #[])).run Tryz.prog w = .ok (.pointer (some ⟨w.heap.size, 0, none⟩)) (w.alloc (.cells #[(.string ⟨#[]⟩), (.int .i64 0), (.int .i64 0), (.slice none 0 0)] 31 (0, 0))) := by kernel_rfl
theorem jq7 (w : World) : (Instr.alloc 43 true (.tuple #[])).run Tryz.prog w = .ok (.pointer (some ⟨w.heap.size, 0, none⟩)) (w.alloc (.cells #[(.slice none 0 0)] 43 (0, 0))) := by kernel_rfl
theorem gW (w : World) : (Instr.alloc 79 true (.tuple #[])).run Tryz.prog w = .ok (.pointer (some ⟨w.heap.size, 0, none⟩)) (w.alloc (.cells #[(.int .i64 0), (.slice none 0 0)] 79 (0, 0))) := by kernel_rfl
theorem N4 (w : World) : (Instr.alloc 104 true (.tuple #[])).run Tryz.prog w = .ok (.pointer (some ⟨w.heap.size, 0, none⟩)) (w.alloc (.cells #[(.int .i64 0)] 104 (0, 0))) := by kernel_rfl
theorem vX (w : World) : (Instr.alloc 106 true (.tuple #[])).run Tryz.prog w = .ok (.pointer (some ⟨w.heap.size, 0, none⟩)) (w.alloc (.cells #[(.slice none 0 0)] 106 (0, 0))) := by kernel_rfl
theorem lG (w : World) : (Instr.alloc 113 true (.tuple #[])).run Tryz.prog w = .ok (.pointer (some ⟨w.heap.size, 0, none⟩)) (w.alloc (.cells #[(.int .u8 0)] 113 (0, 0))) := by kernel_rfl
theorem O4 (w : World) : (Instr.alloc 116 true (.tuple #[])).run Tryz.prog w = .ok (.pointer (some ⟨w.heap.size, 0, none⟩)) (w.alloc (.cells #[(.int .u8 0), (.int .u8 0), (.int .u8 0), (.int .u8 0), (.int .u8 0), (.int .u8 0)] 116 (0, 0))) := by kernel_rfl
theorem aR (w : World) : (Instr.alloc 121 true (.tuple #[])).run Tryz.prog w = .ok (.pointer (some ⟨w.heap.size, 0, none⟩)) (w.alloc (.cells #[(.int .i64 0), (.int .i64 0)] 121 (0, 0))) := by kernel_rfl
theorem dL (w : World) : (Instr.alloc 124 true (.tuple #[])).run Tryz.prog w = .ok (.pointer (some ⟨w.heap.size, 0, none⟩)) (w.alloc (.cells #[.nilFunc] 124 (0, 0))) := by kernel_rfl
theorem pL (w : World) : (Instr.alloc 135 true (.tuple #[])).run Tryz.prog w = .ok (.pointer (some ⟨w.heap.size, 0, none⟩)) (w.alloc (.cells #[(.pointer none), (.slice none 0 0)] 135 (0, 0))) := by kernel_rfl
theorem aF (w : World) : (Instr.alloc 153 true (.tuple #[])).run Tryz.prog w = .ok (.pointer (some ⟨w.heap.size, 0, none⟩)) (w.alloc (.cells #[.nilFunc] 153 (0, 0))) := by kernel_rfl
theorem vT  (w : World) : (Instr.build 25 #[]).run Tryz.prog w = .ok (.agg #[(.slice none 0 0), (.slice none 0 0)]) w := by kernel_rfl
theorem tP (x1 : Option Addr) (x2 : Nat) (x3 : Nat) (w : World) : (Instr.build 25 #[(0, (.slice x1 x2 x3))]).run Tryz.prog w = .ok (.agg #[(.slice x1 x2 x3), (.slice none 0 0)]) w := by kernel_rfl
theorem U6 (x1 : Option Addr) (x2 : Nat) (x3 : Nat) (x4 : Option Addr) (x5 : Nat) (x6 : Nat) (w : World) : (Instr.build 25 #[(0, (.slice x1 x2 x3)), (1, (.slice x4 x5 x6))]).run Tryz.prog w = .ok (.agg #[(.slice x1 x2 x3), (.slice x4 x5 x6)]) w := by kernel_rfl
theorem bU (x1 : ByteArray) (w : World) : (Instr.build 28 #[(0, (.string x1))]).run Tryz.prog w = .ok (.agg #[(.string x1), (.int .i64 0)]) w := by kernel_rfl
theorem B4 (x1 : ByteArray) (x2 : Int) (w : World) : (Instr.build 28 #[(0, (.string x1)), (1, (.int .i64 x2))]).run Tryz.prog w = .ok (.agg #[(.string x1), (.int .i64 x2)]) w := by kernel_rfl
theorem cK (x1 : ByteArray) (x2 : Int) (x3 : Int) (w : World) : (Instr.build 31 #[(0, (.string x1)), (1, (.int .i64 x2)), (2, (.int .i64 x3))]).run Tryz.prog w = .ok (.agg #[(.string x1), (.int .i64 x2), (.int .i64 x3), (.slice none 0 0)]) w := by kernel_rfl
theorem mO (x1 : ByteArray) (x2 : Int) (x3 : Int) (x4 : Option Addr) (x5 : Nat) (x6 : Nat) (w : World) : (Instr.build 31 #[(0, (.string x1)), (1, (.int .i64 x2)), (2, (.int .i64 x3)), (3, (.slice x4 x5 x6))]).run Tryz.prog w = .ok (.agg #[(.string x1), (.int .i64 x2), (.int .i64 x3), (.slice x4 x5 x6)]) w := by kernel_rfl
theorem H7 (x1 : ByteArray) (x2 : Int) (w : World) : (Instr.build 64 #[(0, (.string x1)), (1, (.int .i64 x2))]).run Tryz.prog w = .ok (.agg #[(.string x1), (.int .i64 x2)]) w := by kernel_rfl
theorem tO (x1 : Option Addr) (x2 : Nat) (x3 : Nat) (x4 : Option Addr) (x5 : Nat) (x6 : Nat) (w : World) : (Instr.build 74 #[(0, (.agg #[(.slice x1 x2 x3), (.slice x4 x5 x6)]))]).run Tryz.prog w = .ok (.agg #[(.slice x1 x2 x3), (.slice x4 x5 x6), (.slice none 0 0), (.slice none 0 0)]) w := by kernel_rfl
theorem lF (x1 : Int) (x2 : Option Addr) (x3 : Nat) (x4 : Nat) (w : World) : (Instr.build 79 #[(0, (.int .i64 x1)), (1, (.slice x2 x3 x4))]).run Tryz.prog w = .ok (.agg #[(.int .i64 x1), (.slice x2 x3 x4)]) w := by kernel_rfl
theorem pJ (x1 : Int) (w : World) : (Instr.build 104 #[(0, (.int .i64 x1))]).run Tryz.prog w = .ok (.agg #[(.int .i64 x1)]) w := by kernel_rfl
theorem sK (x1 : Option Addr) (x2 : Nat) (x3 : Nat) (w : World) : (Instr.build 106 #[(0, (.slice x1 x2 x3))]).run Tryz.prog w = .ok (.agg #[(.slice x1 x2 x3)]) w := by kernel_rfl
theorem X3 (x1 : Int) (x2 : Int) (w : World) : (Instr.build 121 #[(0, (.int .i64 x1)), (1, (.int .i64 x2))]).run Tryz.prog w = .ok (.agg #[(.int .i64 x1), (.int .i64 x2)]) w := by kernel_rfl
theorem sJ  (w : World) : (Instr.buildSlice 22 0 #[]).run Tryz.prog w = .ok (.slice (some ⟨w.heap.size, 0, none⟩) 0 0) (w.alloc (.cells #[] 28 (0, 0))) := by kernel_rfl
theorem X2 (x1 : ByteArray) (x2 : Int) (x3 : ByteArray) (x4 : Int) (x5 : ByteArray) (x6 : Int) (x7 : ByteArray) (x8 : Int) (w : World) : (Instr.buildSlice 22 4 #[(0, (.agg #[(.string x1), (.int .i64 x2)])), (1, (.agg #[(.string x3), (.int .i64 x4)])), (2, (.agg #[(.string x5), (.int .i64 x6)])), (3, (.agg #[(.string x7), (.int .i64 x8)]))]).run Tryz.prog w = .ok (.slice (some ⟨w.heap.size, 0, none⟩) 4 4) (w.alloc (.cells #[(.string x1), (.int .i64 x2), (.string x3), (.int .i64 x4), (.string x5), (.int .i64 x6), (.string x7), (.int .i64 x8)] 28 (0, 0))) := by kernel_rfl
theorem tN  (w : World) : (Instr.buildSlice 23 0 #[]).run Tryz.prog w = .ok (.slice (some ⟨w.heap.size, 0, none⟩) 0 0) (w.alloc (.cells #[] 31 (0, 0))) := by kernel_rfl
theorem tM (x1 : ByteArray) (x2 : Int) (x3 : Int) (x4 : Option Addr) (x5 : Nat) (x6 : Nat) (w : World) : (Instr.buildSlice 23 1 #[(0, (.agg #[(.string x1), (.int .i64 x2), (.int .i64 x3), (.slice x4 x5 x6)]))]).run Tryz.prog w = .ok (.slice (some ⟨w.heap.size, 0, none⟩) 1 1) (w.alloc (.cells #[(.string x1), (.int .i64 x2), (.int .i64 x3), (.slice x4 x5 x6)] 31 (0, 0))) := by kernel_rfl
theorem tL (x1 : ByteArray) (x2 : Int) (x3 : Int) (x4 : Option Addr) (x5 : Nat) (x6 : Nat) (x7 : ByteArray) (x8 : Int) (x9 : Int) (x10 : Option Addr) (x11 : Nat) (x12 : Nat) (x13 : ByteArray) (x14 : Int) (x15 : Int) (x16 : Option Addr) (x17 : Nat) (x18 : Nat) (w : World) : (Instr.buildSlice 23 3 #[(0, (.agg #[(.string x1), (.int .i64 x2), (.int .i64 x3), (.slice x4 x5 x6)])), (1, (.agg #[(.string x7), (.int .i64 x8), (.int .i64 x9), (.slice x10 x11 x12)])), (2, (.agg #[(.string x13), (.int .i64 x14), (.int .i64 x15), (.slice x16 x17 x18)]))]).run Tryz.prog w = .ok (.slice (some ⟨w.heap.size, 0, none⟩) 3 3) (w.alloc (.cells #[(.string x1), (.int .i64 x2), (.int .i64 x3), (.slice x4 x5 x6), (.string x7), (.int .i64 x8), (.int .i64 x9), (.slice x10 x11 x12), (.string x13), (.int .i64 x14), (.int .i64 x15), (.slice x16 x17 x18)] 31 (0, 0))) := by kernel_rfl
theorem O7 (x1 : ByteArray) (x2 : Int) (x3 : Int) (x4 : Option Addr) (x5 : Nat) (x6 : Nat) (x7 : ByteArray) (x8 : Int) (x9 : Int) (x10 : Option Addr) (x11 : Nat) (x12 : Nat) (x13 : ByteArray) (x14 : Int) (x15 : Int) (x16 : Option Addr) (x17 : Nat) (x18 : Nat) (x19 : ByteArray) (x20 : Int) (x21 : Int) (x22 : Option Addr) (x23 : Nat) (x24 : Nat) (x25 : ByteArray) (x26 : Int) (x27 : Int) (x28 : Option Addr) (x29 : Nat) (x30 : Nat) (x31 : ByteArray) (x32 : Int) (x33 : Int) (x34 : Option Addr) (x35 : Nat) (x36 : Nat) (w : World) : (Instr.buildSlice 23 6 #[(0, (.agg #[(.string x1), (.int .i64 x2), (.int .i64 x3), (.slice x4 x5 x6)])), (1, (.agg #[(.string x7), (.int .i64 x8), (.int .i64 x9), (.slice x10 x11 x12)])), (2, (.agg #[(.string x13), (.int .i64 x14), (.int .i64 x15), (.slice x16 x17 x18)])), (3, (.agg #[(.string x19), (.int .i64 x20), (.int .i64 x21), (.slice x22 x23 x24)])), (4, (.agg #[(.string x25), (.int .i64 x26), (.int .i64 x27), (.slice x28 x29 x30)])), (5, (.agg #[(.string x31), (.int .i64 x32), (.int .i64 x33), (.slice x34 x35 x36)]))]).run Tryz.prog w = .ok (.slice (some ⟨w.heap.size, 0, none⟩) 6 6) (w.alloc (.cells #[(.string x1), (.int .i64 x2), (.int .i64 x3), (.slice x4 x5 x6), (.string x7), (.int .i64 x8), (.int .i64 x9), (.slice x10 x11 x12), (.string x13), (.int .i64 x14), (.int .i64 x15), (.slice x16 x17 x18), (.string x19), (.int .i64 x20), (.int .i64 x21), (.slice x22 x23 x24), (.string x25), (.int .i64 x26), (.int .i64 x27), (.slice x28 x29 x30), (.string x31), (.int .i64 x32), (.int .i64 x33), (.slice x34 x35 x36)] 31 (0, 0))) := by kernel_rfl
theorem v0 (x1 : Int) (w : World) : (Instr.buildSlice 29 1 #[(0, (.int .i64 x1))]).run Tryz.prog w = .ok (.slice (some ⟨w.heap.size, 0, none⟩) 1 1) (w.alloc (.cells #[(.int .i64 x1)] 3 (0, 0))) := by kernel_rfl
theorem H6 (x1 : Int) (x2 : Int) (w : World) : (Instr.buildSlice 29 2 #[(0, (.int .i64 x1)), (1, (.int .i64 x2))]).run Tryz.prog w = .ok (.slice (some ⟨w.heap.size, 0, none⟩) 2 2) (w.alloc (.cells #[(.int .i64 x1), (.int .i64 x2)] 3 (0, 0))) := by kernel_rfl
theorem xX (x1 : Int) (x2 : Int) (x3 : Int) (w : World) : (Instr.buildSlice 29 3 #[(0, (.int .i64 x1)), (1, (.int .i64 x2)), (2, (.int .i64 x3))]).run Tryz.prog w = .ok (.slice (some ⟨w.heap.size, 0, none⟩) 3 3) (w.alloc (.cells #[(.int .i64 x1), (.int .i64 x2), (.int .i64 x3)] 3 (0, 0))) := by kernel_rfl
theorem gz0 (x1 : Int) (x2 : Int) (x3 : Int) (x4 : Int) (w : World) : (Instr.buildSlice 29 4 #[(0, (.int .i64 x1)), (1, (.int .i64 x2)), (2, (.int .i64 x3)), (3, (.int .i64 x4))]).run Tryz.prog w = .ok (.slice (some ⟨w.heap.size, 0, none⟩) 4 4) (w.alloc (.cells #[(.int .i64 x1), (.int .i64 x2), (.int .i64 x3), (.int .i64 x4)] 3 (0, 0))) := by kernel_rfl
theorem sI (x1 : Int) (x2 : Int) (x3 : Int) (x4 : Int) (x5 : Int) (x6 : Int) (w : World) : (Instr.buildSlice 29 6 #[(0, (.int .i64 x1)), (1, (.int .i64 x2)), (2, (.int .i64 x3)), (3, (.int .i64 x4)), (4, (.int .i64 x5)), (5, (.int .i64 x6))]).run Tryz.prog w = .ok (.slice (some ⟨w.heap.size, 0, none⟩) 6 6) (w.alloc (.cells #[(.int .i64 x1), (.int .i64 x2), (.int .i64 x3), (.int .i64 x4), (.int .i64 x5), (.int .i64 x6)] 3 (0, 0))) := by kernel_rfl
theorem iR (x1 : Option Addr) (x2 : Nat) (x3 : Nat) (w : World) : (Instr.buildSlice 43 1 #[(0, (.slice x1 x2 x3))]).run Tryz.prog w = .ok (.slice (some ⟨w.heap.size, 0, none⟩) 1 1) (w.alloc (.cells #[(.slice x1 x2 x3)] 29 (0, 0))) := by kernel_rfl
theorem vR (x1 : Option Addr) (x2 : Nat) (x3 : Nat) (x4 : Option Addr) (x5 : Nat) (x6 : Nat) (w : World) : (Instr.buildSlice 43 2 #[(0, (.slice x1 x2 x3)), (1, (.slice x4 x5 x6))]).run Tryz.prog w = .ok (.slice (some ⟨w.heap.size, 0, none⟩) 2 2) (w.alloc (.cells #[(.slice x1 x2 x3), (.slice x4 x5 x6)] 29 (0, 0))) := by kernel_rfl
theorem cj3 (x1 : Option Addr) (x2 : Nat) (x3 : Nat) (x4 : Option Addr) (x5 : Nat) (x6 : Nat) (x7 : Option Addr) (x8 : Nat) (x9 : Nat) (w : World) : (Instr.buildSlice 43 3 #[(0, (.slice x1 x2 x3)), (1, (.slice x4 x5 x6)), (2, (.slice x7 x8 x9))]).run Tryz.prog w = .ok (.slice (some ⟨w.heap.size, 0, none⟩) 3 3) (w.alloc (.cells #[(.slice x1 x2 x3), (.slice x4 x5 x6), (.slice x7 x8 x9)] 29 (0, 0))) := by kernel_rfl
theorem cj2 (x1 : Option Addr) (x2 : Nat) (x3 : Nat) (x4 : Option Addr) (x5 : Nat) (x6 : Nat) (x7 : Option Addr) (x8 : Nat) (x9 : Nat) (x10 : Option Addr) (x11 : Nat) (x12 : Nat) (w : World) : (Instr.buildSlice 43 4 #[(0, (.slice x1 x2 x3)), (1, (.slice x4 x5 x6)), (2, (.slice x7 x8 x9)), (3, (.slice x10 x11 x12))]).run Tryz.prog w = .ok (.slice (some ⟨w.heap.size, 0, none⟩) 4 4) (w.alloc (.cells #[(.slice x1 x2 x3), (.slice x4 x5 x6), (.slice x7 x8 x9), (.slice x10 x11 x12)] 29 (0, 0))) := by kernel_rfl
theorem xW (x1 : ByteArray) (w : World) : (Instr.buildSlice 49 1 #[(0, (.string x1))]).run Tryz.prog w = .ok (.slice (some ⟨w.heap.size, 0, none⟩) 1 1) (w.alloc (.cells #[(.string x1)] 9 (0, 0))) := by kernel_rfl
theorem gx9 (x1 : ByteArray) (x2 : ByteArray) (x3 : ByteArray) (x4 : ByteArray) (w : World) : (Instr.buildSlice 49 4 #[(0, (.string x1)), (1, (.string x2)), (2, (.string x3)), (3, (.string x4))]).run Tryz.prog w = .ok (.slice (some ⟨w.heap.size, 0, none⟩) 4 4) (w.alloc (.cells #[(.string x1), (.string x2), (.string x3), (.string x4)] 9 (0, 0))) := by kernel_rfl
theorem aE (x1 : ByteArray) (x2 : Int) (w : World) : (Instr.buildSlice 59 1 #[(0, (.agg #[(.string x1), (.int .i64 x2)]))]).run Tryz.prog w = .ok (.slice (some ⟨w.heap.size, 0, none⟩) 1 1) (w.alloc (.cells #[(.string x1), (.int .i64 x2)] 64 (0, 0))) := by kernel_rfl
theorem tK (x1 : ByteArray) (x2 : Int) (x3 : ByteArray) (x4 : Int) (x5 : ByteArray) (x6 : Int) (w : World) : (Instr.buildSlice 59 3 #[(0, (.agg #[(.string x1), (.int .i64 x2)])), (1, (.agg #[(.string x3), (.int .i64 x4)])), (2, (.agg #[(.string x5), (.int .i64 x6)]))]).run Tryz.prog w = .ok (.slice (some ⟨w.heap.size, 0, none⟩) 3 3) (w.alloc (.cells #[(.string x1), (.int .i64 x2), (.string x3), (.int .i64 x4), (.string x5), (.int .i64 x6)] 64 (0, 0))) := by kernel_rfl
theorem lE (x1 : Int) (w : World) : (Instr.buildSlice 71 1 #[(0, (.int .u8 x1))]).run Tryz.prog w = .ok (.slice (some ⟨w.heap.size, 0, none⟩) 1 1) (w.alloc (.cells #[(.int .u8 x1)] 70 (0, 0))) := by kernel_rfl
theorem U5 (x1 : Nat) (x2 : Value) (w : World) : (Instr.buildSlice 72 1 #[(0, (.iface x1 x2))]).run Tryz.prog w = .ok (.slice (some ⟨w.heap.size, 0, none⟩) 1 1) (w.alloc (.cells #[(.iface x1 x2)] 77 (0, 0))) := by kernel_rfl
theorem gV (x1 : Int) (x2 : Int) (w : World) : (Instr.buildSlice 118 1 #[(0, (.agg #[(.int .i64 x1), (.int .i64 x2)]))]).run Tryz.prog w = .ok (.slice (some ⟨w.heap.size, 0, none⟩) 1 1) (w.alloc (.cells #[(.int .i64 x1), (.int .i64 x2)] 121 (0, 0))) := by kernel_rfl
theorem wS (a0 b0 : Str) (a1 b1 : Int) (w : World) : (Op.equalIn 10000 28 (.agg #[.string ⟨(a0 : Str).toArray⟩, .int .i64 a1]) (.agg #[.string ⟨(b0 : Str).toArray⟩, .int .i64 b1])).run Tryz.prog w = .ok (decide ((a0, a1) = (b0, b1))) w := by
  rw [run_equalIn_agg w 9999 28 _ _ (by simp only [Program.fieldsOf, Tryz.underlying28]) (by kernel_rfl)]; simp only [Program.fieldsOf, Tryz.underlying28]
  by_cases h0 : a0 = b0 <;> by_cases h1 : a1 = b1 <;>
    simp [Op.eqFields, part, isAgg, run_equalIn_int _ 9998 3 .i64 .i64 _ _ Tryz.underlying3, run_equalIn_string _ 9998 9 _ _ Tryz.underlying9, run_underlying Tryz.underlying3, run_underlying Tryz.underlying9, h0, h1]
theorem wN (a0 b0 : Str) (a1 b1 : Int) (w : World) : (binOp .neq 28 (.agg #[.string ⟨(a0 : Str).toArray⟩, .int .i64 a1]) (.agg #[.string ⟨(b0 : Str).toArray⟩, .int .i64 b1])).run Tryz.prog w = .ok (.bool (decide (¬ (a0, a1) = (b0, b1)))) w := by rw [run_neq_struct, wS, decide_not]; rfl
theorem wU (op : BinOp) (x y : Operand) (xs ys : Array Value) (w : World) : (eqGuard op 28 x y (.agg xs) (.agg ys)).run Tryz.prog w = .ok () w := run_eqGuard_agg w op 28 x y xs ys (by kernel_rfl)
theorem zJ (a0 b0 : Str) (a1 b1 : Int) (w : World) : (Op.equalIn 10000 64 (.agg #[.string ⟨(a0 : Str).toArray⟩, .int .i64 a1]) (.agg #[.string ⟨(b0 : Str).toArray⟩, .int .i64 b1])).run Tryz.prog w = .ok (decide ((a0, a1) = (b0, b1))) w := by
  rw [run_equalIn_agg w 9999 64 _ _ (by simp only [Program.fieldsOf, Tryz.underlying64]) (by kernel_rfl)]; simp only [Program.fieldsOf, Tryz.underlying64]
  by_cases h0 : a0 = b0 <;> by_cases h1 : a1 = b1 <;>
    simp [Op.eqFields, part, isAgg, run_equalIn_int _ 9998 3 .i64 .i64 _ _ Tryz.underlying3, run_equalIn_string _ 9998 9 _ _ Tryz.underlying9, run_underlying Tryz.underlying3, run_underlying Tryz.underlying9, h0, h1]
theorem yZ (a0 b0 : Str) (a1 b1 : Int) (w : World) : (binOp .neq 64 (.agg #[.string ⟨(a0 : Str).toArray⟩, .int .i64 a1]) (.agg #[.string ⟨(b0 : Str).toArray⟩, .int .i64 b1])).run Tryz.prog w = .ok (.bool (decide (¬ (a0, a1) = (b0, b1)))) w := by rw [run_neq_struct, zJ, decide_not]; rfl
theorem zK (op : BinOp) (x y : Operand) (xs ys : Array Value) (w : World) : (eqGuard op 64 x y (.agg xs) (.agg ys)).run Tryz.prog w = .ok () w := run_eqGuard_agg w op 64 x y xs ys (by kernel_rfl)
theorem mR (a0 b0 : Int) (a1 b1 : Int) (w : World) : (Op.equalIn 10000 121 (.agg #[.int .i64 a0, .int .i64 a1]) (.agg #[.int .i64 b0, .int .i64 b1])).run Tryz.prog w = .ok (decide ((a0, a1) = (b0, b1))) w := by
  rw [run_equalIn_agg w 9999 121 _ _ (by simp only [Program.fieldsOf, Tryz.underlying121]) (by kernel_rfl)]; simp only [Program.fieldsOf, Tryz.underlying121]
  by_cases h0 : a0 = b0 <;> by_cases h1 : a1 = b1 <;>
    simp [Op.eqFields, part, isAgg, run_equalIn_int _ 9998 3 .i64 .i64 _ _ Tryz.underlying3, run_underlying Tryz.underlying3, h0, h1]
theorem wM (a0 b0 : Int) (a1 b1 : Int) (w : World) : (binOp .neq 121 (.agg #[.int .i64 a0, .int .i64 a1]) (.agg #[.int .i64 b0, .int .i64 b1])).run Tryz.prog w = .ok (.bool (decide (¬ (a0, a1) = (b0, b1)))) w := by rw [run_neq_struct, mR, decide_not]; rfl
theorem wT (op : BinOp) (x y : Operand) (xs ys : Array Value) (w : World) : (eqGuard op 121 x y (.agg xs) (.agg ys)).run Tryz.prog w = .ok () w := run_eqGuard_agg w op 121 x y xs ys (by kernel_rfl)
end T
end Go.Proofs.YtfhninnleacgiaaGreat
end
section
namespace Go.W
universe u
open Go Go.RowKit
class El (α : Type) extends Inhabited α where
  cells : α → List Value
  sz : Nat
  len : ∀ a, (cells a).length = sz
  one : ∀ a, ∀ u ∈ cells a, u.oneCell' = true
def rows {α : Type} [El α] (l : List α) : List Value := l.flatMap El.cells
instance : El Str where
  default := []
  cells s := [str s]
  sz := 1
  len _ := rfl
  one a u h := by simp at h; subst h; rfl
instance : El Int where
  default := 0
  cells n := [int n]
  sz := 1
  len _ := rfl
  one a u h := by simp at h; subst h; rfl
instance : El UInt8 where
  default := 0
  cells n := [.int .u8 n.toNat]
  sz := 1
  len _ := rfl
  one a u h := by simp at h; subst h; rfl
abbrev Mk := Int × Int × Str
instance : El Mk where
  default := (0, 0, [])
  cells m := [int m.1, int m.2.1, str m.2.2]
  sz := 3
  len _ := rfl
  one a u h := by simp at h; rcases h with h | h | h <;> subst h <;> rfl
structure Sl (α : Type) where
  a : Option Addr
  c : Nat
  l : List α
instance {α : Type} : El (Sl α) where
  default := ⟨none, 0, []⟩
  cells p := [.slice p.a p.l.length p.c]
  sz := 1
  len _ := rfl
  one a u h := by simp at h; subst h; rfl
section
variable {α : Type} [El α]
theorem kN : rows ([] : List α) = [] := rfl
theorem K5 (a : α) (l : List α) : rows (a :: l) = El.cells a ++ rows l := rfl
theorem s9 (l l' : List α) : rows (l ++ l') = rows l ++ rows l' := by simp [rows]
theorem I2 (l : List α) : (rows l).length = l.length * El.sz α := by
  induction l with
  | nil => simp [kN]
  | cons a l ih => rw [K5, List.length_append, El.len, ih, List.length_cons, Nat.add_mul, Nat.one_mul, Nat.add_comm]
theorem A9 (l : List α) : ∀ u ∈ rows l, u.oneCell' = true := by
  intro u hu; obtain ⟨a, _, h⟩ := List.mem_flatMap.1 hu; exact El.one a u h
theorem dq7 (l : List α) (k : Nat) : (rows l).drop (k * El.sz α) = rows (l.drop k) := by
  induction l generalizing k with
  | nil => simp [kN]
  | cons a l ih =>
    cases k with
    | zero => simp
    | succ k =>
      rw [K5, List.drop_succ_cons, ← ih, List.drop_append, El.len, List.drop_eq_nil_of_le (by rw [El.len, Nat.succ_mul]; omega), List.nil_append]
      congr 1
      rw [Nat.succ_mul]
      omega
theorem rows_get' (l : List α) (i j : Nat) (hi : i < l.length) (hj : j < El.sz α) : (rows l)[i * El.sz α + j]? = (El.cells (l.getD i default))[j]? := by
  have h := congrArg (·[j]?) (dq7 l i); simp only [List.getElem?_drop] at h; rw [h, List.drop_eq_getElem_cons hi, K5, List.getElem?_append_left (by rw [El.len]; exact hj)]
  simp [List.getD_eq_getElem?_getD, hi]
theorem rows_get {l : List α} {i j : Nat} {v : Value} (hi : i < l.length) (hv : (El.cells (l.getD i default))[j]? = some v) : (rows l)[i * El.sz α + j]? = some v := by
  have hj : j < El.sz α := by
    have := (List.getElem?_eq_some_iff.1 hv).1
    rwa [El.len] at this
  rw [rows_get' l i j hi hj, hv]
theorem b4 {l : List α} {i : Nat} {v : Value} (hi : i < l.length) (hv : (El.cells (l.getD i default))[0]? = some v) : (rows l)[i * El.sz α]? = some v := rows_get (j := 0) hi hv
theorem n7 {l : List α} {i : Nat} (hi : i < l.length) : ∀ j u, (El.cells (l.getD i default))[j]? = some u → (rows l)[i * El.sz α + j]? = some u := fun j u h => rows_get hi h
theorem rows_lt {l : List α} {i : Nat} (hi : i < l.length) (h0 : 0 < El.sz α) : i * El.sz α < (rows l).length := by
  rw [I2]; exact Nat.mul_lt_mul_of_pos_right hi h0
theorem dq6 (l : List α) (k : Nat) : (rows l).take (k * El.sz α) = rows (l.take k) := by
  induction l generalizing k with
  | nil => simp [kN]
  | cons a l ih =>
    cases k with
    | zero => simp [kN]
    | succ k =>
      rw [K5, List.take_succ_cons, K5, ← ih, Nat.succ_mul, List.take_append, El.len, List.take_of_length_le (by rw [El.len]; omega)]
      congr 2
      omega
end
theorem nQ {c : Cx} {Q : Exit → Act → World → Prop} {fr : Fr} {hp : Hp} {L : List Fact} {ops : Array Oper} {rest : List Oper} {d : Tmp} {ty : TypeId} {pos : String} {af : Array Edge}
    {s t : TypeId} {x : Operand} {ks k k' : IntKind} {a : Int} (z : Int) (hd : Nat.blt d c.n = true) (hs : c.P.underlying s = some (.int ks)) (ht : c.P.underlying t = some (.int k')) (hx : ev fr x = some (.int k a)) (hz : k'.wrap a = z)
    (kk : HL c ops Q rest ((d, .int k' z) :: fr) hp L) : HL c ops Q (⟨some d, .convert s t x, ty, pos, af, none⟩ :: rest) fr hp L :=
  u5 _ rfl rfl hd (fun a' w ha _ => by
    simp only [execOp, ha.ev hx, Sem.run_bind, convert, run_underlying hs, run_underlying ht, Result.andThen_ok]; rw [← hz]
    cases ks <;> rfl) kk
theorem r9 {α : Type} [El α] {c : Cx} {Q : Exit → Act → World → Prop} {fr : Fr} {hp : Hp} {L : List Fact} {ops : Array Oper} {rest : List Oper} {d : Tmp} {ty : TypeId} {pos : String} {af : Array Edge}
    {t e : TypeId} {x i : Operand} {A : Option Addr} {n cp : Nat} {kd : IntKind} {z : Int} (l : List α) (j : Nat) (hd : Nat.blt d c.n = true) (ht : c.P.underlying t = some (.slice e)) (hz : Sz c.P e (El.sz α))
    (hx : ev fr x = some (.slice A n cp)) (hi : ev fr i = some (.int kd z)) (hjz : z = (j : Int)) (hr : Row A (rows l) ∈ L) (hn : n = l.length) (hj : j < l.length) (h0 : 0 < El.sz α)
    (k : HL c ops Q rest ((d, .pointer (some ((adr A).add (j * El.sz α)))) :: fr) hp L) : HL c ops Q (⟨some d, .indexAddr t x i, ty, pos, af, none⟩ :: rest) fr hp L :=
  aj6 j hd ht hz hx hi hjz (by omega) hr (rows_lt hj h0) k
def Rows2 {α : Type} [El α] (A : Option Addr) (ps : List (Sl α)) : Fact where
  P w := (Row A (rows ps)).P w ∧ ∀ p ∈ ps, (Row p.a (rows p.l)).P w
  fp k := (Row A (rows ps)).fp k ∨ ∃ p ∈ ps, (Row p.a (rows p.l)).fp k
  st w w' h hP := ⟨(Row A (rows ps)).st w w' (fun k hk => h k (.inl hk)) hP.1, fun p hp => (Row p.a (rows p.l)).st w w' (fun k hk => h k (.inr ⟨p, hp, hk⟩)) (hP.2 p hp)⟩
  lt w hP k hk := by
    rcases hk with hk | ⟨p, hp, hk⟩
    · exact (Row A (rows ps)).lt w hP.1 k hk
    exact (Row p.a (rows p.l)).lt w (hP.2 p hp) k hk
section
variable {c : Cx} {Q : Exit → Act → World → Prop} {fr : Fr} {hp : Hp} {L : List Fact} {ops : Array Oper} {rest : List Oper}
theorem gz8 {α : Type} [El α] {b : Bx} {w : World} {A : Option Addr} {ps : List (Sl α)} (h : Rows2 A ps ∈ L) (hw : WI b w hp L) : WI b w hp (Row A (rows ps) :: L) :=
  L0 hw (hw.fs _ h).1 (fun k hk => ⟨_, h, .inl hk⟩)
theorem hj3 {α : Type} [El α] {b : Bx} {w : World} {A : Option Addr} {ps : List (Sl α)} {p : Sl α} (h : Rows2 A ps ∈ L) (hp' : p ∈ ps) (hw : WI b w hp L) : WI b w hp (Row p.a (rows p.l) :: L) :=
  L0 hw ((hw.fs _ h).2 p hp') (fun k hk => ⟨_, h, .inr ⟨p, hp', hk⟩⟩)
theorem ax2 {α : Type} [El α] {A : Option Addr} {ps : List (Sl α)} {x : Code} (h : Rows2 A ps ∈ L) (k : HC c x Q fr hp (Row A (rows ps) :: L)) : HC c x Q fr hp L := fun a w ha hw => k a w ha (gz8 h hw)
theorem ax0 {α : Type} [El α] {A : Option Addr} {ps : List (Sl α)} {p : Sl α} (h : Rows2 A ps ∈ L) (hp' : p ∈ ps) (k : HL c ops Q rest fr hp (Row p.a (rows p.l) :: L)) : HL c ops Q rest fr hp L := fun a w ha hw => k a w ha (hj3 h hp' hw)
variable {d : Tmp} {ty : TypeId} {pos : String} {af : Array Edge}
theorem p_t {x y z : Operand} {v : Value} {b : Bool} (hd : Nat.blt d c.n = true) (hx : ev fr x = some (.bool b)) (hb : b = true) (hy : ev fr y = some v) (k : HL c ops Q rest ((d, v) :: fr) hp L) : HL c ops Q (⟨some d, .pick x y z, ty, pos, af, none⟩ :: rest) fr hp L := by
  subst hb; exact hq5 hd hx hy k
theorem p_f {x y z : Operand} {v : Value} {b : Bool} (hd : Nat.blt d c.n = true) (hx : ev fr x = some (.bool b)) (hb : b = false) (hz : ev fr z = some v) (k : HL c ops Q rest ((d, v) :: fr) hp L) : HL c ops Q (⟨some d, .pick x y z, ty, pos, af, none⟩ :: rest) fr hp L := by
  subst hb; exact hq6 hd hx hz k
theorem c_t {x : Operand} {b : Bool} {thn els : Code} (hx : ev fr x = some (.bool b)) (hb : b = true) (ht : HC c thn Q fr hp L) : HC c (.cond x thn els) Q fr hp L := by subst hb; exact gj4 hx ht
theorem c_f {x : Operand} {b : Bool} {thn els : Code} (hx : ev fr x = some (.bool b)) (hb : b = false) (hf : HC c els Q fr hp L) : HC c (.cond x thn els) Q fr hp L := by subst hb; exact gj5 hx hf
theorem bt1 {b : Bool} (h : (b == true) = true) : b = true := by cases b <;> simp_all
theorem bt2 {b : Bool} (h : (b == false) = false) : b = true := by cases b <;> simp_all
theorem bf1 {b : Bool} (h : (b == false) = true) : b = false := by cases b <;> simp_all
theorem bf2 {b : Bool} (h : (b == true) = false) : b = false := by cases b <;> simp_all
theorem gy {b : Bool} (h : (b == true) = false) : (b == false) = true := by cases b <;> simp_all
theorem V1 {o : Oper} {j : Nat} {want : Bool} {t : Tmp} {v : Value} (ho : o.dst = some d) (hg : o.guard = some (j, want)) (hd : Nat.blt d c.n = true) (hj : (ops[j]?).bind (·.dst) = some t) (hv : lk fr t = some v) (hu : v = undef)
    (k : HL c ops Q rest ((d, undef) :: fr) hp L) : HL c ops Q (o :: rest) fr hp L := by
  subst hu; intro a w ha hw; refine zQ ?_ ?_
  · rw [Region.wanted, hg]
    show (yielded ops a.tmps j == some want) = false; have h1 := ha.at_ t _ hv
    have : yielded ops a.tmps j = none := by
      unfold yielded; rw [hj]; simp only [Option.bind_some]
      cases h2 : a.tmps[t]? with
      | none => rfl
      | some u => simp [Array.getD_eq_getD_getElem?, h2, undef] at h1; rw [h1]
    rw [this]; rfl
  rw [ho]; exact k _ _ (ha.put (by simpa using hd) _) hw
theorem m6 {dst : Option Tmp} {op : Op} {j : Nat} {want b : Bool} {t : Tmp} (hj : (ops[j]?).bind (·.dst) = some t) (hv : lk fr t = some (.bool b))
    (hy : (b == want) = true → HL c ops Q (⟨dst, op, ty, pos, af, some (j, want)⟩ :: rest) fr hp L) (hn : (b == want) = false → HL c ops Q (⟨dst, op, ty, pos, af, some (j, want)⟩ :: rest) fr hp L) :
    HL c ops Q (⟨dst, op, ty, pos, af, some (j, want)⟩ :: rest) fr hp L := by
  cases hb : (b == want)
  · exact hn hb
  exact hy hb
theorem rG {O0 : Hp} {K : Env → Prop} {r : List Oper} {E : Env} {want b : Bool} {t : Tmp} (hv : lkE E t = some (.ex (.bool b))) (hy : (b == want) = true → HB c ops fr O0 hp L K r E) (hn : (b == want) = false → HB c ops fr O0 hp L K r E) : HB c ops fr O0 hp L K r E := by
  cases hb : (b == want)
  · exact hn hb
  exact hy hb
theorem k8 {x : Operand} {p : Prop} [Decidable p] {thn els : Code} (hx : ev fr x = some (.bool (decide p))) (ht : p → HC c thn Q fr hp L) (hf : ¬ p → HC c els Q fr hp L) : HC c (.cond x thn els) Q fr hp L :=
  i5 hx (fun h => ht (of_decide_eq_true h)) (fun h => hf (of_decide_eq_false h))
end
theorem m0 {α : Type u} {a  : α} {l : List α} : a ∈ a :: l := .head _
theorem m1 {α : Type u} {a x0 : α} {l : List α} : a ∈ x0 :: a :: l := .tail _ (.head _)
theorem m2 {α : Type u} {a x0 x1 : α} {l : List α} : a ∈ x0 :: x1 :: a :: l := .tail _ (.tail _ (.head _))
theorem m3 {α : Type u} {a x0 x1 x2 : α} {l : List α} : a ∈ x0 :: x1 :: x2 :: a :: l := .tail _ (.tail _ (.tail _ (.head _)))
theorem m4 {α : Type u} {a x0 x1 x2 x3 : α} {l : List α} : a ∈ x0 :: x1 :: x2 :: x3 :: a :: l := .tail _ (.tail _ (.tail _ (.tail _ (.head _))))
theorem m5 {α : Type u} {a x0 x1 x2 x3 x4 : α} {l : List α} : a ∈ x0 :: x1 :: x2 :: x3 :: x4 :: a :: l := .tail _ (.tail _ (.tail _ (.tail _ (.tail _ (.head _)))))
theorem m8 {α : Type u} {a x0 x1 x2 x3 x4 x5 x6 x7 : α} {l : List α} : a ∈ x0 :: x1 :: x2 :: x3 :: x4 :: x5 :: x6 :: x7 :: a :: l := .tail _ (.tail _ (.tail _ (.tail _ (.tail _ (.tail _ (.tail _ (.tail _ (.head _))))))))
theorem perm3 {α : Type} (a b c : α) (l : List α) : (a :: b :: c :: l).Perm (c :: a :: b :: l) := by
  have h1 : (a :: b :: c :: l).Perm (a :: c :: b :: l) := (List.Perm.swap c b l).cons a; exact h1.trans (.swap c a _)
theorem perm2 {α : Type} (a b : α) (l : List α) : (a :: b :: l).Perm (b :: a :: l) := .swap b a l
theorem perm4 {α : Type} (a b c d : α) (l : List α) : (a :: b :: c :: d :: l).Perm (d :: a :: b :: c :: l) := ((perm3 b c d l).cons a).trans (.swap d a _)
end Go.W
end
section
namespace Go.W
open Go Go.RowKit
section
variable {c : Cx} {Q : Exit → Act → World → Prop} {fr : Fr} {hp : Hp} {L : List Fact} {ops : Array Oper} {rest : List Oper}
variable {d : Tmp} {ty : TypeId} {pos : String} {af : Array Edge}
theorem u6 {t e : TypeId} {x : Operand} {g : Nat} {cs : Array Value} {fz : Nat × Nat} {n : Nat} (hd : Nat.blt d c.n = true) (ht' : IsR c.P t) (hz' : Sz c.P t n) (hx : ev fr x = some (.pointer (b8 g))) (h : (g, Obj.cells cs e fz) ∈ hp) (hn : cs.size = n)
    (k : HL c ops Q rest ((d, .agg cs) :: fr) hp L) : HL c ops Q (⟨some d, .load t x, ty, pos, af, none⟩ :: rest) fr hp L :=
  q6 (cs := cs.toList) hd ht' hz' hx (by simpa using hn) (lQ h (fun i u hu => by simpa using hu)) k
end
end Go.W
end
section
namespace Go.W
open Go Go.RowKit
abbrev Ment (κ : Type) := κ × Value × Nat
def entOf {κ : Type} (enc : κ → Value) (p : Ment κ) : MapEntry := ⟨enc p.1, p.2.1, p.2.2⟩
def mapO {κ : Type} (enc : κ → Value) (l : List (Ment κ)) (clk : Nat) : Obj := .map (l.map (entOf enc)).toArray clk
def findM {κ : Type} [DecidableEq κ] (k : κ) : List (Ment κ) → Nat → Option (Nat × Value)
  | [], _ => none
  | p :: l, i => if p.1 = k then some (i, p.2.1) else findM k l (i + 1)
def getM {κ : Type} [DecidableEq κ] (l : List (Ment κ)) (k : κ) : Option Value := (findM k l 0).map (·.2)
def putM {κ : Type} [DecidableEq κ] (l : List (Ment κ)) (k : κ) (v : Value) (clk : Nat) : List (Ment κ) :=
  match findM k l 0 with
  | some (i, _) => l.modify i fun p => (k, v, p.2.2)
  | none => l ++ [(k, v, clk)]
def clkM {κ : Type} [DecidableEq κ] (l : List (Ment κ)) (k : κ) (clk : Nat) : Nat := if (findM k l 0).isSome then clk else clk + 1
structure KeyC (P : Program) (kt : TypeId) {κ : Type} [DecidableEq κ] (enc : κ → Value) : Prop where
  chk : ∀ b k w, (Instr.checkKey b 10000 kt (enc k)).run P w = .ok () w
  find : ∀ k l w, (Instr.findKey kt (enc k) (l.map (entOf enc))).run P w = .ok (findM k l 0) w
  stays : ∀ k w, (Instr.keyThatStays (enc k) (enc k)).run P w = .ok (enc k) w
theorem sS (k : Int) : ∀ (l : List (Ment Int)) (i : Nat), Instr.findNow (.int .i64) (int k) (l.map (entOf int)) i = some (findM k l i)
  | [], i => rfl
  | p :: l, i => by
    rw [List.map_cons, Instr.findNow]; simp only [Instr.sameNow, entOf, findM]
    by_cases h : p.1 = k
    · simp [h]
    have h' : ¬ k = p.1 := fun e => h e.symm; simp only [if_true, h, if_false, beq_eq_false_iff_ne.2 h']; exact sS k l (i + 1)
theorem sR (k : Str) : ∀ (l : List (Ment Str)) (i : Nat), Instr.findNow .string (str k) (l.map (entOf str)) i = some (findM k l i)
  | [], i => rfl
  | p :: l, i => by
    rw [List.map_cons, Instr.findNow]; simp only [str, Instr.sameNow, entOf, findM]
    have hb : ((ByteArray.mk k.toArray) == ByteArray.mk p.1.toArray) = decide (p.1 = k) := by
      rw [Bool.eq_iff_iff, MapKept.bytes_beq, decide_eq_true_iff]
      constructor
      · intro e
        injection e with e
        have := congrArg Array.toList e
        simpa using this.symm
      intro e; rw [e]
    rw [hb]
    by_cases h : p.1 = k
    · simp [h]
    simp only [h, decide_false, if_false]; exact sR k l (i + 1)
theorem KeyC.int {P : Program} {kt : TypeId} (h : P.underlying kt = some (.int .i64)) : KeyC P kt W.int where
  chk b k w := MapKept.run_checkKey h (by simp [MapKept.IsKey]) b 9999
  find k l w := MapKept.run_findKey h (sS k l 0)
  stays k w := MapKept.run_keyThatStays (d := .int .i64) (by simp [MapKept.IsKey])
theorem KeyC.str {P : Program} {kt : TypeId} (h : P.underlying kt = some .string) : KeyC P kt W.str where
  chk b k w := MapKept.run_checkKey h (by simp [MapKept.IsKey, W.str]) b 9999
  find k l w := MapKept.run_findKey h (sR k l 0)
  stays k w := MapKept.run_keyThatStays (d := .string) (by simp [MapKept.IsKey, W.str])
def pair (p : Int × Int) : Value := .agg #[W.int p.1, W.int p.2]
theorem gL {P : Program} {e : TypeId} (he : P.underlying e = some (.int .i64)) (cs : Array Value) (i : Nat) (v : Value) (hv : cs[i]? = some v) (w : World) : (part e cs i).run P w = .ok v w := by
  have hagg : (isAgg e).run P w = .ok false w := by
    unfold isAgg; rw [Sem.run_bind, run_underlying he w]
    rfl
  simp [part, Sem.run_bind, hagg, hv]
theorem bz8 {P : Program} {e : TypeId} (he : P.underlying e = some (.int .i64)) (d : Nat) (a b : Int) (w : World) : (Op.equalIn (d + 1) e (W.int a) (W.int b)).run P w = .ok (a == b) w := by
  simp [Op.equalIn, run_underlying he]
theorem eq_pair {P : Program} {kt e : TypeId} (h : P.underlying kt = some (.array 2 e)) (he : P.underlying e = some (.int .i64)) (hz : Sz P e 1) (p q : Int × Int) (w : World) : (Op.equal kt (pair p) (pair q)).run P w = .ok (decide (p = q)) w := by
  have hs := X8 hz w
  have key : ∀ d, (Op.equalIn (d + 2) kt (pair p) (pair q)).run P w = .ok (decide (p = q)) w := by
    intro d; obtain ⟨a, b⟩ := p; obtain ⟨a', b'⟩ := q; have p0 := gL he #[W.int a, W.int b] 0 (W.int a) rfl w; have p1 := gL he #[W.int a, W.int b] 1 (W.int b) rfl w; have q0 := gL he #[W.int a', W.int b'] 0 (W.int a') rfl w; have q1 := gL he #[W.int a', W.int b'] 1 (W.int b') rfl w; unfold Op.equalIn; simp only [Sem.run_bind, run_underlying h, pair, hs, Result.andThen_ok, Std.Legacy.Range.forIn_eq_forIn_range', Std.Legacy.Range.size, Nat.sub_zero, Nat.reduceAdd, Nat.reduceSub, Nat.reduceDiv, List.range', List.forIn_cons, List.forIn_nil, Nat.zero_mul, Nat.mul_one, Nat.zero_add, p0, p1, q0, q1, bz8 he d]
    by_cases h1 : a = a'
    · subst h1
      by_cases h2 : b = b'
      · subst h2; simp [p1, bz8 he d]
      simp [h2, p1, q1, bz8 he d]
    simp [h1]
  exact key 9998
theorem vK {P : Program} {kt e : TypeId} (h : P.underlying kt = some (.array 2 e)) (he : P.underlying e = some (.int .i64)) (hz : Sz P e 1) (k : Int × Int) (w : World) : ∀ (l : List (Ment (Int × Int))) (i : Nat), (Instr.findAsking kt (pair k) (l.map (entOf pair)) i).run P w = .ok (findM k l i) w
  | [], i => rfl
  | p :: l, i => by
    rw [List.map_cons, Instr.findAsking]; simp only [Sem.run_bind, entOf, eq_pair h he hz, Result.andThen_ok, findM]
    by_cases hk : p.1 = k
    · simp [hk]
    have h' : ¬ k = p.1 := fun e => hk e.symm; simp only [hk, h', decide_false, Bool.false_eq_true, if_false]; exact vK h he hz k w l (i + 1)
theorem KeyC.pair {P : Program} {kt e : TypeId} (h : P.underlying kt = some (.array 2 e)) (he : P.underlying e = some (.int .i64)) (hz : Sz P e 1) : KeyC P kt W.pair where
  chk b k w := by
    have hs := X8 hz w; have p0 := gL he #[W.int k.1, W.int k.2] 0 (W.int k.1) rfl w; have p1 := gL he #[W.int k.1, W.int k.2] 1 (W.int k.2) rfl w; have c : ∀ (n : Int), (Instr.checkKey b 9999 e (W.int n)).run P w = .ok () w := fun n => MapKept.run_checkKey he (by simp [MapKept.IsKey]) b 9998; unfold Instr.checkKey
    simp [run_underlying h, W.pair, hs, Std.Legacy.Range.forIn_eq_forIn_range', List.range', p0, p1, c]
  find k l w := by
    unfold Instr.findKey; simp only [Sem.run_bind, run_underlying h, Result.andThen_ok]
    have : Instr.findNow (.array 2 e) (W.pair k) (l.map (entOf W.pair)) 0 = none ∨ (l = [] ∧ Instr.findNow (.array 2 e) (W.pair k) (l.map (entOf W.pair)) 0 = some none) := by
      cases l with
      | nil => exact .inr ⟨rfl, rfl⟩
      | cons p l => exact .inl rfl
    rcases this with h1 | ⟨rfl, h1⟩
    · rw [h1]
      exact vK h he hz k w l 0
    rw [h1]; rfl
  stays k w := by
    obtain ⟨a, b⟩ := k
    have : Instr.sameBits 10000 (W.pair (a, b)) (W.pair (a, b)) = true := by
      simp [Instr.sameBits, W.pair]
    unfold Instr.keyThatStays; rw [if_pos this]
    rfl
/-! ### Cuts aS9 facts; perms -/
theorem D4 {α : Type} {l l' : List α} (h : ∀ p : α → Bool, l.countP p = l'.countP p) : l.Perm l' := by
  classical
  refine List.perm_iff_count.2 fun a => ?_
  simpa [List.count] using h (· == a)
theorem pm3 {α : Type} (l : List α) (a b c : α) : (a :: (l ++ [b, c])).Perm (l ++ [a, b, c]) := D4 fun p => by simp only [List.countP_append, List.countP_cons, List.countP_nil]; omega
theorem pm4 {α : Type} (l : List α) (a b c : α) : (l ++ [a, b, c]).Perm (a :: (l ++ [b, c])) := (pm3 l a b c).symm
section
variable {c : Cx} {Q : Exit → Act → World → Prop} {fr : Fr} {hp : Hp} {L : List Fact} {ops : Array Oper} {rest : List Oper}
theorem Q4 {e : TypeId} {sz n cap : Nat} {A : Option Addr} {xs : List Value} {og : Hp} {x : Exit} (hG : Grow e sz A n cap xs og) (k : HQ c Q x fr [] (Row A xs :: L)) : HQ c Q x fr og L := fun a w ha hw => k a w ha (pN hG (by simpa using hw))
end
/-! ### The rules -/
def MapAt (b : Bx) (hp : Hp) (L : List Fact) (g : Nat) (o : Obj) : Prop := ∀ w, WI b w hp L → w.heap[g]? = some o
section
variable {κ : Type} [DecidableEq κ] {enc : κ → Value} {kt e : TypeId}
theorem map_own {b : Bx} {hp : Hp} {L : List Fact} {g : Nat} {o : Obj} (h : (g, o) ∈ hp) : MapAt b hp L g o := fun w hw => hw.own _ h
variable {c : Cx} {Q : Exit → Act → World → Prop} {fr : Fr} {hp : Hp} {L : List Fact} {ops : Array Oper} {rest : List Oper}
variable {d : Tmp} {ty : TypeId} {pos : String} {af : Array Edge}
theorem kM {P : Program} {t : TypeId} (K : KeyC P kt enc) (ht : P.underlying t = some (.map kt e)) {g : Nat} {l : List (Ment κ)} {clk : Nat} {k : κ} {w : World} (hb : w.heap[g]? = some (mapO enc l clk)) (ok : Bool) :
    ((getM l k).isSome = true → (Instr.lookup t (.map (some g)) (enc k) ok).run P w = .ok (if ok then .tuple #[(getM l k).getD undef, .bool true] else (getM l k).getD undef) w) ∧
    ∀ z, (zeroValue e).run P w = .ok z w → getM l k = none → (Instr.lookup t (.map (some g)) (enc k) ok).run P w = .ok (if ok then .tuple #[z, .bool false] else z) w := by
  have hf := K.find k l w; have hc := fun b => K.chk b k w; unfold getM
  cases hr : findM k l 0 with
  | none =>
    rw [hr] at hf; refine ⟨fun h => by simp at h, fun z hz _ => ?_⟩
    simp [Instr.lookup, run_underlying ht, MapKept.run_getObj_map (show w.heap[g]? = some (.map _ _) from hb), hc, hf, hz]
  | some p =>
    obtain ⟨i, v⟩ := p; rw [hr] at hf; refine ⟨fun _ => ?_, fun z hz h => by simp at h⟩
    simp [Instr.lookup, run_underlying ht, MapKept.run_getObj_map (show w.heap[g]? = some (.map _ _) from hb), hc, hf]
theorem r_look {t : TypeId} {x y : Operand} {g : Nat} {l : List (Ment κ)} {clk : Nat} {k : κ} {v : Value} (K : KeyC c.P kt enc) (hd : Nat.blt d c.n = true) (ht : c.P.underlying t = some (.map kt e)) (hx : ev fr x = some (.map (some g))) (hy : ev fr y = some (enc k)) (hm : MapAt c.b hp L g (mapO enc l clk))
    (hv : getM l k = some v) (kk : HL c ops Q rest ((d, v) :: fr) hp L) : HL c ops Q (⟨some d, .lookup t x y false, ty, pos, af, none⟩ :: rest) fr hp L :=
  u5 _ rfl rfl hd (fun a w ha hw => by
    have := (kM (k := k) K ht (hm w hw) false).1 (by simp [hv]); simp only [hv, Option.getD_some, Bool.false_eq_true, if_false] at this
    simp only [execOp, ha.ev hx, ha.ev hy, Sem.run_bind, this, Result.andThen_ok, Sem.run_pure]) kk
theorem r_look0 {t : TypeId} {x y : Operand} {g : Nat} {l : List (Ment κ)} {clk : Nat} {k : κ} {z : Value} (K : KeyC c.P kt enc) (hd : Nat.blt d c.n = true) (ht : c.P.underlying t = some (.map kt e)) (hx : ev fr x = some (.map (some g))) (hy : ev fr y = some (enc k)) (hm : MapAt c.b hp L g (mapO enc l clk))
    (hz : ∀ w, (zeroValue e).run c.P w = .ok z w) (hv : getM l k = none) (kk : HL c ops Q rest ((d, z) :: fr) hp L) : HL c ops Q (⟨some d, .lookup t x y false, ty, pos, af, none⟩ :: rest) fr hp L :=
  u5 _ rfl rfl hd (fun a w ha hw => by
    have := (kM (k := k) K ht (hm w hw) false).2 z (hz w) hv; simp only [Bool.false_eq_true, if_false] at this
    simp only [execOp, ha.ev hx, ha.ev hy, Sem.run_bind, this, Result.andThen_ok, Sem.run_pure]) kk
theorem ax8 {k : κ} : ∀ (l : List (Ment κ)) (i j : Nat) (v : Value), findM k l i = some (j, v) → ∃ m p, j = i + m ∧ l[m]? = some p ∧ p.1 = k ∧ p.2.1 = v
  | [], i, j, v, h => by simp [findM] at h
  | p :: l, i, j, v, h => by
    rw [findM] at h
    split at h
    · rename_i e
      simp only [Option.some.injEq, Prod.mk.injEq] at h; exact ⟨0, p, by omega, rfl, e, h.2⟩
    obtain ⟨m, q, h1, h2, h3⟩ := ax8 l (i + 1) j v h; exact ⟨m + 1, q, by omega, by simpa using h2, h3⟩
omit [DecidableEq κ] in
theorem vB {l : List (Ment κ)} {i : Nat} {k : κ} {v : Value} {p : Ment κ} (hp : l[i]? = some p) :
    ((l.map (entOf enc)).toArray.modify i fun x => { x with key := enc k, val := v }) = ((l.modify i fun p => (k, v, p.2.2)).map (entOf enc)).toArray := by
  apply Array.ext'
  simp only [Array.toList_modify]
  apply List.ext_getElem?
  intro n; simp only [List.getElem?_modify, List.getElem?_map]
  split
  · cases hl : l[n]? <;> simp [entOf]
  simp
theorem hq8 {t : TypeId} {x y z : Operand} {g : Nat} {l : List (Ment κ)} {clk : Nat} {k : κ} {v : Value} {hp' : Hp} {o : Op} (K : KeyC c.P kt enc) (ho : o = .mapUpdate t x y z ∨ o = .insert t x y z) (ht : c.P.underlying t = some (.map kt e)) (hx : ev fr x = some (.map (some g))) (hy : ev fr y = some (enc k)) (hz : ev fr z = some v)
    (hpp : hp.Perm ((g, mapO enc l clk) :: hp')) (kk : HL c ops Q rest fr ((g, mapO enc (putM l k v clk) (clkM l k clk)) :: hp') L) : HL c ops Q (⟨none, o, ty, pos, af, none⟩ :: rest) fr hp L :=
  tW rfl rfl fun a w ha hw => by
    have hw' := hw.perm hpp; have hg := hw'.own (g, mapO enc l clk) (by simp); have hg' : w.heap[g]? = some (.map (l.map (entOf enc)).toArray clk) := hg; have hf := K.find k l w
    have hrun : (Instr.mapUpdate t (.map (some g)) (enc k) v).run c.P w = .ok () { w with heap := w.heap.setIfInBounds g (mapO enc (putM l k v clk) (clkM l k clk)) } := by
      unfold putM clkM
      cases hr : findM k l 0 with
      | none =>
        rw [hr] at hf; simp only [Instr.mapUpdate, Sem.run_bind, run_underlying ht, Result.andThen_ok, MapKept.run_getObj_map hg', K.chk, hf, MapKept.run_setObj_map _ hg']
        have : ((l.map (entOf enc)).toArray.push { key := enc k, val := v, born := clk }) = ((l ++ [(k, v, clk)]).map (entOf enc)).toArray := by
          apply Array.ext'; simp [entOf]
        rw [this]
        rfl
      | some p =>
        obtain ⟨i, u⟩ := p; rw [hr] at hf; obtain ⟨m, q, h1, h2, h3, h4⟩ := ax8 l 0 i u hr; have e1 : i = m := by omega
        subst e1
        have e2 : (((l.map (entOf enc)).toArray[i]?).map (·.key)).getD (enc k) = enc k := by
          simp [h2, entOf, h3]
        simp only [Instr.mapUpdate, Sem.run_bind, run_underlying ht, Result.andThen_ok, MapKept.run_getObj_map hg', K.chk, hf, e2, K.stays, MapKept.run_setObj_map _ hg', vB h2]
        rfl
    refine ⟨{ w with heap := w.heap.setIfInBounds g (mapO enc (putM l k v clk) (clkM l k clk)) }, _, L, ?_, hw'.write (o' := mapO enc (putM l k v clk) (clkM l k clk)) ⟨rfl, rfl, rfl, by simp, fun j hj hn => by simp only [List.mem_singleton] at hn; simp [Array.getElem?_setIfInBounds_ne (Ne.symm hn)], Nat.le_refl _⟩ ?_, kk⟩
    · rcases ho with rfl | rfl <;> simp only [execOp, ha.ev hx, ha.ev hy, ha.ev hz, Sem.run_bind, hrun, Result.andThen_ok, Sem.run_pure]
    have := D6 hg; simp only at this
    simp [this]
omit [DecidableEq κ] in
theorem bq3 (enc : κ → Value) {t : TypeId} (hd : Nat.blt d c.n = true) (k : ∀ g, HL c ops Q rest ((d, .map (some g)) :: fr) ((g, mapO enc [] 0) :: hp) L) : HL c ops Q (⟨some d, .makeMap t none, ty, pos, af, none⟩ :: rest) fr hp L :=
  dx0 hd k
theorem pF {k : κ} : ∀ (l : List (Ment κ)) (i : Nat), findM k l (i + 1) = (findM k l i).map fun p => (p.1 + 1, p.2)
  | [], i => rfl
  | p :: l, i => by
    simp only [findM]
    split
    · rfl
    exact pF l (i + 1)
theorem gT (p : Ment κ) (l : List (Ment κ)) (k : κ) : getM (p :: l) k = if p.1 = k then some p.2.1 else getM l k := by
  unfold getM; simp only [findM]
  split
  · rfl
  rw [pF]; cases findM k l 0 <;> rfl
theorem iz3 (l : List (Ment κ)) (k k' : κ) (v : Value) (clk : Nat) : getM (putM l k v clk) k' = if k = k' then some v else getM l k' := by
  induction l with
  | nil => simp [putM, findM, gT, getM]
  | cons p l ih =>
    by_cases h : p.1 = k
    · have : putM (p :: l) k v clk = (k, v, p.2.2) :: l := by simp [putM, findM, h]
      rw [this, gT, gT]; simp only [h]
      split <;> rfl
    have : putM (p :: l) k v clk = p :: putM l k v clk := by
      simp only [putM, findM, h, if_false]; rw [pF]
      cases hf : findM k l 0 with
      | none => simp
      | some q => simp
    rw [this, gT, ih, gT]
    split
    · rename_i e
      rw [if_neg (fun e' => h (e.trans e'.symm))]
    rfl
end
end Go.W
end
section
namespace Go.W
open Go Go.RowKit
section
variable {c : Cx} {fr : Fr} {hp : Hp} {L : List Fact}
theorem cF {β : Type} {k : Con β} {fn : Func} {w0 : World} (x : β) {t : Tmp} {ty e : TypeId} {g n : Nat} {cs : Array Value} {fz : Nat × Nat} (hres : fn.results = #[.cell t ty]) (hv : lk fr t = some (.pointer (b8 g))) (ht : IsR c.P ty) (hz : Sz c.P ty n) (hn : cs.size = n)
    (hm : (g, Obj.cells cs e fz) ∈ hp) (hk : k.val x = .agg cs) (hb : c.b = k.entry w0) (hi : k.inv x) (h2 : (k.hpO x).Sublist hp) (h3 : LSub L (k.LO x)) (hD : c.D = [] := by rfl) : HQ c (bodyPost c.P fn (k.post w0)) .ret fr hp L :=
  lI x (fun a w ha hw => by
    obtain ⟨dd, ht, hr⟩ := ht; have h1 := hw.own _ hm; simp only at h1
    have hl : (loadVar ty ⟨g, 0, none⟩).run c.P w = .ok (.agg cs) w := by
      have hagg : (isAgg ty).run c.P w = .ok true w := by
        unfold isAgg; rw [Sem.run_bind, run_underlying ht w]
        cases dd <;> simp_all [TypeDesc.isRow]
      have hc := run_loadCells_list (P := c.P) w ⟨g, 0, none⟩ cs.toList (fun j u hu => by rw [iT, Nat.zero_add]; simp at hu; simp [World.cell?, h1, hu]); have hs := X8 hz w; simp only [loadVar, Sem.run_bind, hagg, Result.andThen_ok, if_true, hs, ← hn]; have e : cs.size = cs.toList.length := by simp
      rw [e, hc]
      simp
    have hv' := ha.at_ _ _ hv; rw [hk]; unfold results; rw [hres]; have hv2 : a.tmps[t]?.getD undef = .pointer (b8 g) := by simpa using hv'
    simp [hv2, asAddr, hl]) hb hi h2 h3 hD
theorem sP {β : Type} {k : Con β} {fn : Func} {w0 : World} (x : β) {t u : Tmp} {ty e : TypeId} {g n : Nat} {cs : Array Value} {fz : Nat × Nat} {v2 : Value} (hres : fn.results = #[.cell t ty, .tmp u]) (hv : lk fr t = some (.pointer (b8 g))) (hv2 : lk fr u = some v2) (ht : IsR c.P ty) (hz : Sz c.P ty n) (hn : cs.size = n)
    (hm : (g, Obj.cells cs e fz) ∈ hp) (hk : k.val x = .tuple #[.agg cs, v2]) (hb : c.b = k.entry w0) (hi : k.inv x) (h2 : (k.hpO x).Sublist hp) (h3 : LSub L (k.LO x)) (hD : c.D = [] := by rfl) : HQ c (bodyPost c.P fn (k.post w0)) .ret fr hp L :=
  lI x (fun a w ha hw => by
    obtain ⟨dd, ht, hr⟩ := ht; have h1 := hw.own _ hm; simp only at h1
    have hl : (loadVar ty ⟨g, 0, none⟩).run c.P w = .ok (.agg cs) w := by
      have hagg : (isAgg ty).run c.P w = .ok true w := by
        unfold isAgg; rw [Sem.run_bind, run_underlying ht w]
        cases dd <;> simp_all [TypeDesc.isRow]
      have hc := run_loadCells_list (P := c.P) w ⟨g, 0, none⟩ cs.toList (fun j u hu => by rw [iT, Nat.zero_add]; simp at hu; simp [World.cell?, h1, hu]); have hs := X8 hz w; simp only [loadVar, Sem.run_bind, hagg, Result.andThen_ok, if_true, hs, ← hn]; have e : cs.size = cs.toList.length := by simp
      rw [e, hc]
      simp
    have hv' := ha.at_ _ _ hv; have hv2' := ha.at_ _ _ hv2; rw [hk]; unfold results; rw [hres]; have h5 : a.tmps[t]?.getD undef = .pointer (b8 g) := by simpa using hv'
    have h6 : a.tmps[u]?.getD undef = v2 := by simpa using hv2'
    simp [h5, h6, asAddr, hl]) hb hi h2 h3 hD
end
section
variable {c : Cx} {Q : Exit → Act → World → Prop} {fr : Fr} {hp : Hp} {L : List Fact} {ops : Array Oper} {rest : List Oper}
variable {d : Tmp} {ty : TypeId} {pos : String} {af : Array Edge}
theorem t9 {t e : TypeId} {x : Operand} {g : Nat} {cs : Array Value} {fz : Nat × Nat} {n : Nat} (hd : Nat.blt d c.n = true) (ht' : IsR c.P t) (hz' : Sz c.P t n) (hx : ev fr x = some (.pointer (b8 g))) (h : Blk g (Obj.cells cs e fz) ∈ L) (hn : cs.size = n)
    (k : HL c ops Q rest ((d, .agg cs) :: fr) hp L) : HL c ops Q (⟨some d, .load t x, ty, pos, af, none⟩ :: rest) fr hp L :=
  q6 (cs := cs.toList) hd ht' hz' hx (by simpa using hn) (gx8 h (fun i u hu => by simpa using hu)) k
end
section
variable {κ : Type} [DecidableEq κ] {enc : κ → Value} {kt e : TypeId}
variable {c : Cx} {Q : Exit → Act → World → Prop} {fr : Fr} {hp : Hp} {L : List Fact} {ops : Array Oper} {rest : List Oper}
variable {d : Tmp} {ty : TypeId} {pos : String} {af : Array Edge}
end
theorem yM {α : Type} {l' : List α} : ∀ {l : List α}, (∀ p : α → Bool, l'.countP p ≤ l.countP p) → ∃ r, l.Perm (l' ++ r) := by
  classical
  induction l' with
  | nil => intro l _; exact ⟨l, .refl _⟩
  | cons a t ih =>
    intro l h; have h1 := h (fun x => decide (x = a)); rw [List.countP_cons_of_pos (by simp)] at h1
    have ha : a ∈ l := by
      have : 0 < l.countP (fun x => decide (x = a)) := by omega
      obtain ⟨x, hx, e⟩ := List.countP_pos_iff.1 this
      simp at e
      exact e ▸ hx
    have hp := List.perm_cons_erase ha
    obtain ⟨r, hr⟩ := ih (l := l.erase a) (fun p => by
      have h2 := h p; have h3 := hp.countP_eq p; rw [List.countP_cons] at h2 h3
      omega)
    exact ⟨r, hp.trans (hr.cons a)⟩
theorem WI.count {b : Bx} {w : World} {hp hp' : Hp} {L L' : List Fact} (h : WI b w hp L) (hc : ∀ p : Nat × Obj → Bool, hp'.countP p ≤ hp.countP p) (h2 : ∀ F ∈ L', F ∈ L) : WI b w hp' L' := by
  obtain ⟨r, hr⟩ := yM hc; exact (h.perm hr).weak (List.sublist_append_left _ _) h2
section
variable {c : Cx} {Q : Exit → Act → World → Prop} {fr : Fr} {hp : Hp} {L : List Fact} {ops : Array Oper} {rest : List Oper}
end
section
variable {c : Cx} {Q : Exit → Act → World → Prop} {fr : Fr} {hp : Hp} {L : List Fact} {ops : Array Oper} {rest : List Oper}
theorem rL {b : Bx} {w : World} {g : Nat} {o : Obj} (h : WI b w ((g, o) :: hp) L) : WI b w hp (Blk g o :: L) := h.letgo (h.own (g, o) (by simp)) (fun k hk => hk)
theorem D9 {g : Nat} {o : Obj} {x : Code} (k : HC c x Q fr hp (Blk g o :: L)) : HC c x Q fr ((g, o) :: hp) L := fun a w ha hw => k a w ha (rL hw)
theorem aY {g : Nat} {o : Obj} (k : HL c ops Q rest fr hp (Blk g o :: L)) : HL c ops Q rest fr ((g, o) :: hp) L := fun a w ha hw => k a w ha (rL hw)
end
def Facts (Fs : List Fact) : Fact where
  P w := ∀ F ∈ Fs, F.P w
  fp k := ∃ F ∈ Fs, F.fp k
  st w w' h hP F hF := F.st w w' (fun k hk => h k ⟨F, hF, hk⟩) (hP F hF)
  lt w hP k hk := by obtain ⟨F, hF, hk⟩ := hk; exact F.lt w (hP F hF) k hk
section
variable {c : Cx} {Q : Exit → Act → World → Prop} {fr : Fr} {hp : Hp} {L : List Fact} {ops : Array Oper} {rest : List Oper}
theorem wi_pick {b : Bx} {w : World} {Fs : List Fact} {F : Fact} (h : Facts Fs ∈ L) (hF : F ∈ Fs) (hw : WI b w hp L) : WI b w hp (F :: L) := L0 hw (hw.fs _ h F hF) (fun k hk => ⟨_, h, F, hF, hk⟩)
theorem cz0 {Fs : List Fact} {F : Fact} {x : Code} (h : Facts Fs ∈ L) (hF : F ∈ Fs) (k : HC c x Q fr hp (F :: L)) : HC c x Q fr hp L := fun a w ha hw => k a w ha (wi_pick h hF hw)
theorem uE {b : Bx} {w : World} {Fs : List Fact} (h : ∀ F ∈ Fs, F ∈ L ∨ ∃ Gs, Facts Gs ∈ L ∧ F ∈ Gs) (hw : WI b w hp L) : WI b w hp (Facts Fs :: L) :=
  L0 hw (fun F hF => by
    rcases h F hF with h1 | ⟨Gs, h1, h2⟩
    · exact hw.fs _ h1
    · exact hw.fs _ h1 F h2) (fun k hk => by
    obtain ⟨F, hF, hk⟩ := hk
    rcases h F hF with h1 | ⟨Gs, h1, h2⟩
    · exact ⟨F, h1, hk⟩
    exact ⟨_, h1, F, h2, hk⟩)
theorem kX {Fs : List Fact} (h : ∀ F ∈ Fs, F ∈ L ∨ ∃ Gs, Facts Gs ∈ L ∧ F ∈ Gs) (k : HL c ops Q rest fr hp (Facts Fs :: L)) : HL c ops Q rest fr hp L := fun a w ha hw => k a w ha (uE h hw)
theorem bQ {Fs : List Fact} {x : Code} (h : ∀ F ∈ Fs, F ∈ L ∨ ∃ Gs, Facts Gs ∈ L ∧ F ∈ Gs) (k : HC c x Q fr hp (Facts Fs :: L)) : HC c x Q fr hp L := fun a w ha hw => k a w ha (uE h hw)
theorem O3 {Fs : List Fact} {x : Exit} (h : ∀ F ∈ Fs, F ∈ L ∨ ∃ Gs, Facts Gs ∈ L ∧ F ∈ Gs) (k : HQ c Q x fr hp (Facts Fs :: L)) : HQ c Q x fr hp L := fun a w ha hw => k a w ha (uE h hw)
end
section
variable {c : Cx} {Q : Exit → Act → World → Prop} {fr : Fr} {hp : Hp} {L : List Fact} {ops : Array Oper} {rest : List Oper}
theorem A4 {e : Exit} {α : Type} [El α] (k : HQ c Q e fr hp (Row none (rows ([] : List α)) :: L)) : HQ c Q e fr hp L := hq_more (F := Row none (rows ([] : List α))) (fun w _ => Row.nil _ w) (fun k hk => by obtain ⟨_, e, _⟩ := hk; cases e) k
theorem xQ {α : Type} [El α] (k : HL c ops Q rest fr hp (Row none (rows ([] : List α)) :: L)) : HL c ops Q rest fr hp L := hl_more (F := Row none (rows ([] : List α))) (fun w _ => Row.nil _ w) (fun k hk => by obtain ⟨_, e, _⟩ := hk; cases e) k
end
end Go.W
end
section
namespace Go.Proofs.YtfhninnleacgiaaGreat
open Go Go.W
set_option maxRecDepth 20000
attribute [local irreducible] HL HC HQ HB Row Rows2 Blk Facts
theorem s4 {α : Type} [Inhabited α] (l : List α) (k : Nat) (h : k < l.length) : l.take (k + 1) = l.take k ++ [l.getD k default] := by
  rw [List.take_succ_eq_append_getElem h]
  simp [List.getD_eq_getElem?_getD, h]
theorem cJ {α : Type} {a b : List α} {k : Nat} (h : a.take k = b.take k) (ha : a.length ≤ k) (hb : b.length ≤ k) : a = b := by
  rwa [List.take_of_length_le ha, List.take_of_length_le hb] at h
theorem ij2 {α : Type} [Inhabited α] {a b : List α} {k : Nat} (h : ¬ a.getD k default = b.getD k default) : ¬ a = b := fun e => h (by rw [e])
theorem N2 {A B : Option Addr} {ca cb : Nat} (a b : List Int) (ha : a.length ≤ 9223372036854775806) :
    Meets Tryz.prog F.bP [.slice A a.length ca, .slice B b.length cb] { LI := [Row A (rows a), Row B (rows b)], val := fun _ : Unit => .bool (decide (a = b)) } := by
 refine i7 F.zD rfl p7 fun w0 => ?_; refine i4 (b7 rfl (d9 (i1 (i4 (a8 rfl ?_))))); refine k4 rfl T.s5 rfl (a8 rfl (k4 rfl T.s5 rfl ?_)); refine t3 rfl rfl rfl (d9 ?_)
 first | refine k8 rfl (fun hb1 => ?_) (fun hb1 => ?_) | refine i5 rfl (fun hb1 => ?_) (fun hb1 => ?_)
 ·have hb1' := hb1; try simp at hb1'
  have hb1 : ¬ a = b := fun e => by subst e; exact hb1 rfl
  refine i4 (b7 rfl (d9 (P8 ?_))); exact ret1 () rfl (by rw [decide_eq_false hb1]; rfl) rfl trivial (.refl _) trivial
 have hb1' := hb1; try simp at hb1'
 have hb1 : a.length = b.length := by omega
 refine j3 (g6 (i1 (i4 (b7 rfl (d9 (i9 ?_)))))); refine p6 (β := Nat) ⟨fun k => k ≤ a.length ∧ a.take k = b.take k, fun k => [(0, .slice A a.length ca), (1, .slice B b.length cb), (5, int k)], fun _ => [], fun _ => [Row A (rows a), Row B (rows b)]⟩ (fun k => a.length - k) 0 ⟨Nat.zero_le _, rfl⟩ mC (.refl _) ⟨m0, m1, trivial⟩ fun k hk => ?_; obtain ⟨hk, ht⟩ := hk; refine i1 (i4 (a8 rfl (a8 rfl ?_))); refine k4 rfl T.s5 rfl ?_; refine t7 rfl rfl rfl (d9 ?_)
 first | refine k8 rfl (fun hb2 => ?_) (fun hb2 => ?_) | refine i5 rfl (fun hb2 => ?_) (fun hb2 => ?_)
 ·have hb2' := hb2; try simp at hb2'
  have hb2 : k < a.length := by omega
  refine j3 (g6 (i1 (i9 (i1 ?_)))); refine C8 8 mixed (by decide) (by decide) rfl rfl (l3 (fun w1 => a8 rfl (q_z rfl)) (l3 (fun w1 => a8 rfl (q_z rfl)) (l3 (fun w1 => r9 (α := Int) _ _ rfl T.s5 T.v6 rfl rfl rfl mB rfl (by omega) (by decide) (q_z rfl)) (l3 (fun w1 => a6 rfl T.b2 rfl (d3 mB (b4 (by omega) rfl)) (q_z rfl)) (l3 (fun w1 => a8 rfl (q_z rfl)) (l3 (fun w1 => a8 rfl (q_z rfl)) (l3 (fun w1 => r9 (α := Int) _ _ rfl T.s5 T.v6 rfl rfl rfl mB rfl (by omega) (by decide) (q_z rfl)) ?_))))))); refine l3 (fun w1 => a6 rfl T.b2 rfl (d3 mB (b4 (by omega) rfl)) (q_z rfl)) ?_; refine w5 ⟨rfl, ?_⟩; refine t3 rfl rfl rfl (d9 ?_)
  first | refine k8 rfl (fun hb3 => ?_) (fun hb3 => ?_) | refine i5 rfl (fun hb3 => ?_) (fun hb3 => ?_)
  ·have hb3' := hb3; try simp at hb3'
   have hb3 : ¬ a = b := ij2 (a := a) (b := b) (k := k) hb3; refine i4 (b7 rfl (d9 (k5 (B7 (z8 (B7 ?_)))))); exact ret1 () rfl (by rw [decide_eq_false hb3]; rfl) rfl trivial (.refl _) trivial
  have hb3' := hb3; try simp at hb3'
  have hb3 : a.getD k default = b.getD k default := Classical.not_not.1 hb3; refine j3 (n9 (g6 (b9 (a8 rfl ?_)))); refine q9 _ rfl rfl rfl rfl n5 ?_; refine b7 rfl (b3 ?_); exact again _ (k + 1) ⟨by omega, by rw [s4 a k hb2, s4 b k (by omega), ht, hb3]⟩ (by first | omega | (simp only; omega)) mC (.refl _) ⟨m0, m1, trivial⟩
 have hb2' := hb2; try simp at hb2'
 have hb2 : k = a.length := by omega
 refine n2 (t4 (n1 (g6 (i4 (b7 rfl (d9 (k5 ?_))))))); exact ret1 () rfl (by rw [decide_eq_true (cJ ht (by omega) (by omega))]; rfl) rfl trivial (.refl _) trivial
abbrev OutC := Option Addr × Nat
def outSl {α : Type} [El α] (l : List α) : Con OutC := { inv := fun x => l.length ≤ x.2, val := fun x => .slice x.1 l.length x.2, LO := fun x => [Row x.1 (rows l)] }
end Go.Proofs.YtfhninnleacgiaaGreat
end
