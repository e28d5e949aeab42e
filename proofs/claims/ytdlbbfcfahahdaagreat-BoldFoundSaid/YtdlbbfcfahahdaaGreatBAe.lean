/- Texts of this claim, one behind another. -/
import Derived.Test.YtdlbbfcfahahdaaGreatProg
import Derived.KernelRfl
import Derived.Laws.StructEq
import Derived.Laws.IdiomStrings
import Derived.MapKept
import Derived.Test.YtdlbbfcfahahdaaGreatBAd
set_option linter.unusedVariables false
set_option linter.unusedSimpArgs false
section
namespace Go.Proofs.YtdlbbfcfahahdaaGreat
open Go Go.W
theorem mixed : Tryz.prog.follows .mixedOrders = true := by kernel_rfl
namespace F
abbrev qj7 : Nat := 3
abbrev lB : Nat := 4
theorem vP : Tryz.prog.funcs[lB]? = some Tryz.f4 := Tryz.func4
abbrev law09_large : Nat := 5
abbrev jU : Nat := 6
theorem cj0 : Tryz.prog.funcs[jU]? = some Tryz.f6 := Tryz.func6
theorem O1 : Callable Tryz.prog jU := ⟨⟨_, Tryz.func6, by kernel_rfl, by kernel_rfl⟩⟩
abbrev nV : Nat := 7
theorem dz0 : Tryz.prog.funcs[nV]? = some Tryz.f7 := Tryz.func7
theorem cj5 : Callable Tryz.prog nV := ⟨⟨_, Tryz.func7, by kernel_rfl, by kernel_rfl⟩⟩
abbrev kit_SalesOf : Nat := 8
abbrev nZ : Nat := 9
theorem dz3 : Tryz.prog.funcs[nZ]? = some Tryz.f9 := Tryz.func9
theorem D2 : Callable Tryz.prog nZ := ⟨⟨_, Tryz.func9, by kernel_rfl, by kernel_rfl⟩⟩
abbrev kit_DupSales : Nat := 10
abbrev bold_Price : Nat := 11
abbrev ref09_Price : Nat := 12
abbrev kQ : Nat := 13
theorem jj6 : Tryz.prog.funcs[kQ]? = some Tryz.f13 := Tryz.func13
theorem gj7 : Callable Tryz.prog kQ := ⟨⟨_, Tryz.func13, by kernel_rfl, by kernel_rfl⟩⟩
abbrev ref09_Bills : Nat := 14
abbrev tY : Nat := 15
theorem jj5 : Tryz.prog.funcs[tY]? = some Tryz.f15 := Tryz.func15
theorem rM : Callable Tryz.prog tY := ⟨⟨_, Tryz.func15, by kernel_rfl, by kernel_rfl⟩⟩
abbrev ref09_Check : Nat := 16
abbrev cD : Nat := 17
theorem ix5 : Tryz.prog.funcs[cD]? = some Tryz.f17 := Tryz.func17
theorem H8 : Callable Tryz.prog cD := ⟨⟨_, Tryz.func17, by kernel_rfl, by kernel_rfl⟩⟩
abbrev bold_Saved : Nat := 18
abbrev ref09_Saved : Nat := 19
abbrev bold_Streets : Nat := 20
abbrev ref09_Streets : Nat := 21
abbrev kit_EqSales : Nat := 22
abbrev sU : Nat := 23
theorem ix0 : Tryz.prog.funcs[sU]? = some Tryz.f23 := Tryz.func23
theorem dx4 : Callable Tryz.prog sU := ⟨⟨_, Tryz.func23, by kernel_rfl, by kernel_rfl⟩⟩
abbrev jW : Nat := 24
theorem cj3 : Tryz.prog.funcs[jW]? = some Tryz.f24 := Tryz.func24
theorem aj6 : Callable Tryz.prog jW := ⟨⟨_, Tryz.func24, by kernel_rfl, by kernel_rfl⟩⟩
abbrev jX : Nat := 25
theorem cj4 : Tryz.prog.funcs[jX]? = some Tryz.f25 := Tryz.func25
theorem aj7 : Callable Tryz.prog jX := ⟨⟨_, Tryz.func25, by kernel_rfl, by kernel_rfl⟩⟩
abbrev nX : Nat := 26
theorem dz1 : Tryz.prog.funcs[nX]? = some Tryz.f26 := Tryz.func26
theorem nW : Callable Tryz.prog nX := ⟨⟨_, Tryz.func26, by kernel_rfl, by kernel_rfl⟩⟩
abbrev dR : Nat := 27
theorem aq0 : Tryz.prog.funcs[dR]? = some Tryz.f27 := Tryz.func27
theorem yB : Callable Tryz.prog dR := ⟨⟨_, Tryz.func27, by kernel_rfl, by kernel_rfl⟩⟩
abbrev nY : Nat := 28
theorem dz2 : Tryz.prog.funcs[nY]? = some Tryz.f28 := Tryz.func28
theorem V8 : Callable Tryz.prog nY := ⟨⟨_, Tryz.func28, by kernel_rfl, by kernel_rfl⟩⟩
abbrev kP : Nat := 29
theorem jj3 : Tryz.prog.funcs[kP]? = some Tryz.f29 := Tryz.func29
theorem rL : Callable Tryz.prog kP := ⟨⟨_, Tryz.func29, by kernel_rfl, by kernel_rfl⟩⟩
abbrev nE : Nat := 30
theorem dq2 : Tryz.prog.funcs[nE]? = some Tryz.f30 := Tryz.func30
theorem bx1 : Callable Tryz.prog nE := ⟨⟨_, Tryz.func30, by kernel_rfl, by kernel_rfl⟩⟩
abbrev pM : Nat := 31
theorem gj5 : Tryz.prog.funcs[pM]? = some Tryz.f31 := Tryz.func31
theorem cz5 : Callable Tryz.prog pM := ⟨⟨_, Tryz.func31, by kernel_rfl, by kernel_rfl⟩⟩
abbrev jN : Nat := 32
theorem bx0 : Tryz.prog.funcs[jN]? = some Tryz.f32 := Tryz.func32
theorem aj1 : Callable Tryz.prog jN := ⟨⟨_, Tryz.func32, by kernel_rfl, by kernel_rfl⟩⟩
abbrev jY : Nat := 33
theorem cj6 : Tryz.prog.funcs[jY]? = some Tryz.f33 := Tryz.func33
theorem aj9 : Callable Tryz.prog jY := ⟨⟨_, Tryz.func33, by kernel_rfl, by kernel_rfl⟩⟩
abbrev dQ : Nat := 34
theorem aj5 : Tryz.prog.funcs[dQ]? = some Tryz.f34 := Tryz.func34
theorem iM : Callable Tryz.prog dQ := ⟨⟨_, Tryz.func34, by kernel_rfl, by kernel_rfl⟩⟩
abbrev kN : Nat := 35
theorem jj2 : Tryz.prog.funcs[kN]? = some Tryz.f35 := Tryz.func35
theorem gj3 : Callable Tryz.prog kN := ⟨⟨_, Tryz.func35, by kernel_rfl, by kernel_rfl⟩⟩
abbrev sV : Nat := 36
theorem ix1 : Tryz.prog.funcs[sV]? = some Tryz.f36 := Tryz.func36
theorem dx5 : Callable Tryz.prog sV := ⟨⟨_, Tryz.func36, by kernel_rfl, by kernel_rfl⟩⟩
abbrev qI : Nat := 37
theorem kx4 : Tryz.prog.funcs[qI]? = some Tryz.f37 := Tryz.func37
theorem jj4 : Callable Tryz.prog qI := ⟨⟨_, Tryz.func37, by kernel_rfl, by kernel_rfl⟩⟩
abbrev nU : Nat := 38
theorem dx8 : Tryz.prog.funcs[nU]? = some Tryz.f38 := Tryz.func38
theorem cj1 : Callable Tryz.prog nU := ⟨⟨_, Tryz.func38, by kernel_rfl, by kernel_rfl⟩⟩
abbrev nS : Nat := 39
theorem dx6 : Tryz.prog.funcs[nS]? = some Tryz.f39 := Tryz.func39
theorem bz8 : Callable Tryz.prog nS := ⟨⟨_, Tryz.func39, by kernel_rfl, by kernel_rfl⟩⟩
abbrev nT : Nat := 40
theorem dx7 : Tryz.prog.funcs[nT]? = some Tryz.f40 := Tryz.func40
theorem bz9 : Callable Tryz.prog nT := ⟨⟨_, Tryz.func40, by kernel_rfl, by kernel_rfl⟩⟩
abbrev dE : Nat := 41
theorem gj4 : Tryz.prog.funcs[dE]? = some Tryz.f41 := Tryz.func41
theorem cz4 : Callable Tryz.prog dE := ⟨⟨_, Tryz.func41, by kernel_rfl, by kernel_rfl⟩⟩
abbrev kA : Nat := 42
theorem cj8 : Tryz.prog.funcs[kA]? = some Tryz.f42 := Tryz.func42
theorem aq2 : Callable Tryz.prog kA := ⟨⟨_, Tryz.func42, by kernel_rfl, by kernel_rfl⟩⟩
abbrev dU : Nat := 43
theorem aq4 : Tryz.prog.funcs[dU]? = some Tryz.f43 := Tryz.func43
theorem iN : Callable Tryz.prog dU := ⟨⟨_, Tryz.func43, by kernel_rfl, by kernel_rfl⟩⟩
abbrev kit_AdvertOf : Nat := 44
abbrev jZ : Nat := 45
theorem cj7 : Tryz.prog.funcs[jZ]? = some Tryz.f45 := Tryz.func45
theorem aq1 : Callable Tryz.prog jZ := ⟨⟨_, Tryz.func45, by kernel_rfl, by kernel_rfl⟩⟩
abbrev kM : Nat := 46
theorem cz3 : Tryz.prog.funcs[kM]? = some Tryz.f46 := Tryz.func46
theorem v6 : Callable Tryz.prog kM := ⟨⟨_, Tryz.func46, by kernel_rfl, by kernel_rfl⟩⟩
abbrev iz9 : Nat := 47
theorem qj0 : Tryz.prog.funcs[iz9]? = some Tryz.f47 := Tryz.func47
theorem mj3 : Callable Tryz.prog iz9 := ⟨⟨_, Tryz.func47, by kernel_rfl, by kernel_rfl⟩⟩
abbrev U5 : Nat := 48
theorem pI : Tryz.prog.funcs[U5]? = some Tryz.f48 := Tryz.func48
theorem lX : Callable Tryz.prog U5 := ⟨⟨_, Tryz.func48, by kernel_rfl, by kernel_rfl⟩⟩
abbrev jM : Nat := 49
theorem bq9 : Tryz.prog.funcs[jM]? = some Tryz.f49 := Tryz.func49
theorem N9 : Callable Tryz.prog jM := ⟨⟨_, Tryz.func49, by kernel_rfl, by kernel_rfl⟩⟩
abbrev ref09_price : Nat := 50
abbrev tS : Nat := 51
theorem jj1 : Tryz.prog.funcs[tS]? = some Tryz.f51 := Tryz.func51
theorem gJ : Callable Tryz.prog tS := ⟨⟨_, Tryz.func51, by kernel_rfl, by kernel_rfl⟩⟩
abbrev ref09_Bill : Nat := 52
abbrev Y6 : Nat := 53
theorem tT : Tryz.prog.funcs[Y6]? = some Tryz.f53 := Tryz.func53
theorem aT : Callable Tryz.prog Y6 := ⟨⟨_, Tryz.func53, by kernel_rfl, by kernel_rfl⟩⟩
abbrev lj6 : Nat := 54
abbrev mx3 : Nat := 55
abbrev pJ : Nat := 56
theorem dz7 : Tryz.prog.funcs[pJ]? = some Tryz.f56 := Tryz.func56
theorem cz0 : Callable Tryz.prog pJ := ⟨⟨_, Tryz.func56, by kernel_rfl, by kernel_rfl⟩⟩
abbrev xA : Nat := 57
theorem pL : Tryz.prog.funcs[xA]? = some Tryz.f57 := Tryz.func57
theorem ax5 : Callable Tryz.prog xA := ⟨⟨_, Tryz.func57, by kernel_rfl, by kernel_rfl⟩⟩
abbrev cO : Nat := 58
theorem Z5 : Tryz.prog.funcs[cO]? = some Tryz.f58 := Tryz.func58
theorem K9 : Callable Tryz.prog cO := ⟨⟨_, Tryz.func58, by kernel_rfl, by kernel_rfl⟩⟩
abbrev ref09_Sum : Nat := 59
abbrev cM : Nat := 60
theorem yU : Tryz.prog.funcs[cM]? = some Tryz.f60 := Tryz.func60
theorem wU : Callable Tryz.prog cM := ⟨⟨_, Tryz.func60, by kernel_rfl, by kernel_rfl⟩⟩
abbrev ref09_Off : Nat := 61
abbrev cE : Nat := 62
theorem yC : Tryz.prog.funcs[cE]? = some Tryz.f62 := Tryz.func62
theorem cZ : Callable Tryz.prog cE := ⟨⟨_, Tryz.func62, by kernel_rfl, by kernel_rfl⟩⟩
abbrev xY : Nat := 63
theorem kj4 : Tryz.prog.funcs[xY]? = some Tryz.f63 := Tryz.func63
theorem vR : Callable Tryz.prog xY := ⟨⟨_, Tryz.func63, by kernel_rfl, by kernel_rfl⟩⟩
abbrev sW : Nat := 64
theorem ix3 : Tryz.prog.funcs[sW]? = some Tryz.f64 := Tryz.func64
theorem dx9 : Callable Tryz.prog sW := ⟨⟨_, Tryz.func64, by kernel_rfl, by kernel_rfl⟩⟩
abbrev jV : Nat := 65
theorem cj2 : Tryz.prog.funcs[jV]? = some Tryz.f65 := Tryz.func65
theorem lD : Callable Tryz.prog jV := ⟨⟨_, Tryz.func65, by kernel_rfl, by kernel_rfl⟩⟩
abbrev dS : Nat := 66
theorem aq3 : Tryz.prog.funcs[dS]? = some Tryz.f66 := Tryz.func66
theorem Y2 : Callable Tryz.prog dS := ⟨⟨_, Tryz.func66, by kernel_rfl, by kernel_rfl⟩⟩
abbrev mS : Nat := 67
theorem dj8 : Tryz.prog.funcs[mS]? = some Tryz.f67 := Tryz.func67
theorem mR : Callable Tryz.prog mS := ⟨⟨_, Tryz.func67, by kernel_rfl, by kernel_rfl⟩⟩
abbrev L7 : Nat := 68
theorem cz7 : Tryz.prog.funcs[L7]? = some Tryz.f68 := Tryz.func68
theorem ax8 : Callable Tryz.prog L7 := ⟨⟨_, Tryz.func68, by kernel_rfl, by kernel_rfl⟩⟩
abbrev tK : Nat := 69
theorem iz6 : Tryz.prog.funcs[tK]? = some Tryz.f69 := Tryz.func69
theorem rK : Callable Tryz.prog tK := ⟨⟨_, Tryz.func69, by kernel_rfl, by kernel_rfl⟩⟩
abbrev aI : Nat := 70
theorem wL : Tryz.prog.funcs[aI]? = some Tryz.f70 := Tryz.func70
theorem K6 : Callable Tryz.prog aI := ⟨⟨_, Tryz.func70, by kernel_rfl, by kernel_rfl⟩⟩
abbrev R4 : Nat := 71
theorem lS : Tryz.prog.funcs[R4]? = some Tryz.f71 := Tryz.func71
theorem V5 : Callable Tryz.prog R4 := ⟨⟨_, Tryz.func71, by kernel_rfl, by kernel_rfl⟩⟩
abbrev kK : Nat := 72
theorem cz1 : Tryz.prog.funcs[kK]? = some Tryz.f72 := Tryz.func72
theorem lH : Callable Tryz.prog kK := ⟨⟨_, Tryz.func72, by kernel_rfl, by kernel_rfl⟩⟩
abbrev aJ : Nat := 73
theorem wV : Tryz.prog.funcs[aJ]? = some Tryz.f73 := Tryz.func73
theorem cN : Callable Tryz.prog aJ := ⟨⟨_, Tryz.func73, by kernel_rfl, by kernel_rfl⟩⟩
abbrev M1 : Nat := 74
theorem bS : Tryz.prog.funcs[M1]? = some Tryz.f74 := Tryz.func74
theorem O9 : Callable Tryz.prog M1 := ⟨⟨_, Tryz.func74, by kernel_rfl, by kernel_rfl⟩⟩
abbrev kO : Nat := 75
theorem cz6 : Tryz.prog.funcs[kO]? = some Tryz.f75 := Tryz.func75
theorem ax7 : Callable Tryz.prog kO := ⟨⟨_, Tryz.func75, by kernel_rfl, by kernel_rfl⟩⟩
abbrev L3 : Nat := 76
theorem aV : Tryz.prog.funcs[L3]? = some Tryz.f76 := Tryz.func76
theorem O5 : Callable Tryz.prog L3 := ⟨⟨_, Tryz.func76, by kernel_rfl, by kernel_rfl⟩⟩
abbrev nI : Nat := 77
theorem dq6 : Tryz.prog.funcs[nI]? = some Tryz.f77 := Tryz.func77
theorem bU : Callable Tryz.prog nI := ⟨⟨_, Tryz.func77, by kernel_rfl, by kernel_rfl⟩⟩
abbrev nD : Nat := 78
theorem dq1 : Tryz.prog.funcs[nD]? = some Tryz.f78 := Tryz.func78
theorem nB : Callable Tryz.prog nD := ⟨⟨_, Tryz.func78, by kernel_rfl, by kernel_rfl⟩⟩
abbrev dO : Nat := 79
theorem aj0 : Tryz.prog.funcs[dO]? = some Tryz.f79 := Tryz.func79
theorem iG : Callable Tryz.prog dO := ⟨⟨_, Tryz.func79, by kernel_rfl, by kernel_rfl⟩⟩
abbrev Z9 : Nat := 80
theorem uS : Tryz.prog.funcs[Z9]? = some Tryz.f80 := Tryz.func80
theorem bT : Callable Tryz.prog Z9 := ⟨⟨_, Tryz.func80, by kernel_rfl, by kernel_rfl⟩⟩
abbrev gQ : Nat := 81
theorem ax6 : Tryz.prog.funcs[gQ]? = some Tryz.f81 := Tryz.func81
theorem yX : Callable Tryz.prog gQ := ⟨⟨_, Tryz.func81, by kernel_rfl, by kernel_rfl⟩⟩
abbrev wS : Nat := 82
theorem mj2 : Tryz.prog.funcs[wS]? = some Tryz.f82 := Tryz.func82
theorem zT : Callable Tryz.prog wS := ⟨⟨_, Tryz.func82, by kernel_rfl, by kernel_rfl⟩⟩
abbrev yS : Nat := 83
theorem kx3 : Tryz.prog.funcs[yS]? = some Tryz.f83 := Tryz.func83
theorem iz8 : Callable Tryz.prog yS := ⟨⟨_, Tryz.func83, by kernel_rfl, by kernel_rfl⟩⟩
abbrev aK : Nat := 84
theorem wW : Tryz.prog.funcs[aK]? = some Tryz.f84 := Tryz.func84
theorem tP : Callable Tryz.prog aK := ⟨⟨_, Tryz.func84, by kernel_rfl, by kernel_rfl⟩⟩
abbrev U8 : Nat := 85
theorem gj6 : Tryz.prog.funcs[U8]? = some Tryz.f85 := Tryz.func85
theorem cz8 : Callable Tryz.prog U8 := ⟨⟨_, Tryz.func85, by kernel_rfl, by kernel_rfl⟩⟩
abbrev tO : Nat := 86
theorem jj0 : Tryz.prog.funcs[tO]? = some Tryz.f86 := Tryz.func86
theorem gj2 : Callable Tryz.prog tO := ⟨⟨_, Tryz.func86, by kernel_rfl, by kernel_rfl⟩⟩
abbrev gN : Nat := 87
theorem ax4 : Tryz.prog.funcs[gN]? = some Tryz.f87 := Tryz.func87
theorem yV : Callable Tryz.prog gN := ⟨⟨_, Tryz.func87, by kernel_rfl, by kernel_rfl⟩⟩
abbrev dz9 : Nat := 88
theorem lG : Tryz.prog.funcs[dz9]? = some Tryz.f88 := Tryz.func88
abbrev dz8 : Nat := 89
theorem lF : Tryz.prog.funcs[dz8]? = some Tryz.f89 := Tryz.func89
abbrev yA : Nat := 90
theorem kj5 : Tryz.prog.funcs[yA]? = some Tryz.f90 := Tryz.func90
theorem ix4 : Callable Tryz.prog yA := ⟨⟨_, Tryz.func90, by kernel_rfl, by kernel_rfl⟩⟩
abbrev mN : Nat := 91
theorem dj5 : Tryz.prog.funcs[mN]? = some Tryz.f91 := Tryz.func91
theorem mK : Callable Tryz.prog mN := ⟨⟨_, Tryz.func91, by kernel_rfl, by kernel_rfl⟩⟩
abbrev gE : Nat := 92
theorem aq8 : Tryz.prog.funcs[gE]? = some Tryz.f92 := Tryz.func92
theorem iW : Callable Tryz.prog gE := ⟨⟨_, Tryz.func92, by kernel_rfl, by kernel_rfl⟩⟩
abbrev mQ : Nat := 93
theorem dj7 : Tryz.prog.funcs[mQ]? = some Tryz.f93 := Tryz.func93
theorem bq1 : Callable Tryz.prog mQ := ⟨⟨_, Tryz.func93, by kernel_rfl, by kernel_rfl⟩⟩
abbrev O8 : Nat := 94
theorem iA : Tryz.prog.funcs[O8]? = some Tryz.f94 := Tryz.func94
theorem dN : Callable Tryz.prog O8 := ⟨⟨_, Tryz.func94, by kernel_rfl, by kernel_rfl⟩⟩
abbrev X4 : Nat := 95
theorem sD : Tryz.prog.funcs[X4]? = some Tryz.f95 := Tryz.func95
theorem qS : Callable Tryz.prog X4 := ⟨⟨_, Tryz.func95, by kernel_rfl, by kernel_rfl⟩⟩
abbrev aD : Nat := 96
theorem uU : Tryz.prog.funcs[aD]? = some Tryz.f96 := Tryz.func96
theorem sB : Callable Tryz.prog aD := ⟨⟨_, Tryz.func96, by kernel_rfl, by kernel_rfl⟩⟩
abbrev nH : Nat := 97
theorem dq5 : Tryz.prog.funcs[nH]? = some Tryz.f97 := Tryz.func97
theorem bx5 : Callable Tryz.prog nH := ⟨⟨_, Tryz.func97, by kernel_rfl, by kernel_rfl⟩⟩
abbrev lJ : Nat := 98
theorem dD : Tryz.prog.funcs[lJ]? = some Tryz.f98 := Tryz.func98
theorem tV : Callable Tryz.prog lJ := ⟨⟨_, Tryz.func98, by kernel_rfl, by kernel_rfl⟩⟩
abbrev P7 : Nat := 99
theorem jJ : Tryz.prog.funcs[P7]? = some Tryz.f99 := Tryz.func99
theorem iB : Callable Tryz.prog P7 := ⟨⟨_, Tryz.func99, by kernel_rfl, by kernel_rfl⟩⟩
abbrev lI : Nat := 100
theorem dC : Tryz.prog.funcs[lI]? = some Tryz.f100 := Tryz.func100
theorem tU : Callable Tryz.prog lI := ⟨⟨_, Tryz.func100, by kernel_rfl, by kernel_rfl⟩⟩
abbrev X2 : Nat := 101
theorem rS : Tryz.prog.funcs[X2]? = some Tryz.f101 := Tryz.func101
theorem qN : Callable Tryz.prog X2 := ⟨⟨_, Tryz.func101, by kernel_rfl, by kernel_rfl⟩⟩
abbrev Z7 : Nat := 102
theorem uK : Tryz.prog.funcs[Z7]? = some Tryz.f102 := Tryz.func102
theorem rR : Callable Tryz.prog Z7 := ⟨⟨_, Tryz.func102, by kernel_rfl, by kernel_rfl⟩⟩
abbrev xI : Nat := 103
theorem jx0 : Tryz.prog.funcs[xI]? = some Tryz.f103 := Tryz.func103
theorem hx4 : Callable Tryz.prog xI := ⟨⟨_, Tryz.func103, by kernel_rfl, by kernel_rfl⟩⟩
abbrev X0 : Nat := 104
theorem rO : Tryz.prog.funcs[X0]? = some Tryz.f104 := Tryz.func104
theorem qK : Callable Tryz.prog X0 := ⟨⟨_, Tryz.func104, by kernel_rfl, by kernel_rfl⟩⟩
abbrev sE : Nat := 105
theorem iq2 : Tryz.prog.funcs[sE]? = some Tryz.f105 := Tryz.func105
theorem rD : Callable Tryz.prog sE := ⟨⟨_, Tryz.func105, by kernel_rfl, by kernel_rfl⟩⟩
abbrev nG : Nat := 106
theorem dq4 : Tryz.prog.funcs[nG]? = some Tryz.f106 := Tryz.func106
theorem bx4 : Callable Tryz.prog nG := ⟨⟨_, Tryz.func106, by kernel_rfl, by kernel_rfl⟩⟩
abbrev nF : Nat := 107
theorem dq3 : Tryz.prog.funcs[nF]? = some Tryz.f107 := Tryz.func107
theorem bx2 : Callable Tryz.prog nF := ⟨⟨_, Tryz.func107, by kernel_rfl, by kernel_rfl⟩⟩
abbrev V3 : Nat := 108
theorem qP : Tryz.prog.funcs[V3]? = some Tryz.f108 := Tryz.func108
theorem mX : Callable Tryz.prog V3 := ⟨⟨_, Tryz.func108, by kernel_rfl, by kernel_rfl⟩⟩
abbrev rN : Nat := 109
theorem hq9 : Tryz.prog.funcs[rN]? = some Tryz.f109 := Tryz.func109
theorem qZ : Callable Tryz.prog rN := ⟨⟨_, Tryz.func109, by kernel_rfl, by kernel_rfl⟩⟩
abbrev R3 : Nat := 110
theorem lR : Tryz.prog.funcs[R3]? = some Tryz.f110 := Tryz.func110
theorem jL : Callable Tryz.prog R3 := ⟨⟨_, Tryz.func110, by kernel_rfl, by kernel_rfl⟩⟩
abbrev H4 : Nat := 111
theorem mM : Tryz.prog.funcs[H4]? = some Tryz.f111 := Tryz.func111
theorem lN : Callable Tryz.prog H4 := ⟨⟨_, Tryz.func111, by kernel_rfl, by kernel_rfl⟩⟩
abbrev dJ : Nat := 112
theorem zX : Tryz.prog.funcs[dJ]? = some Tryz.f112 := Tryz.func112
theorem M7 : Callable Tryz.prog dJ := ⟨⟨_, Tryz.func112, by kernel_rfl, by kernel_rfl⟩⟩
abbrev P8 : Nat := 113
theorem jK : Tryz.prog.funcs[P8]? = some Tryz.f113 := Tryz.func113
theorem iC : Callable Tryz.prog P8 := ⟨⟨_, Tryz.func113, by kernel_rfl, by kernel_rfl⟩⟩
abbrev I2 : Nat := 114
theorem qM : Tryz.prog.funcs[I2]? = some Tryz.f114 := Tryz.func114
theorem mL : Callable Tryz.prog I2 := ⟨⟨_, Tryz.func114, by kernel_rfl, by kernel_rfl⟩⟩
abbrev mO : Nat := 115
theorem dj6 : Tryz.prog.funcs[mO]? = some Tryz.f115 := Tryz.func115
theorem bq0 : Callable Tryz.prog mO := ⟨⟨_, Tryz.func115, by kernel_rfl, by kernel_rfl⟩⟩
abbrev S8 : Nat := 116
theorem mW : Tryz.prog.funcs[S8]? = some Tryz.f116 := Tryz.func116
theorem lQ : Callable Tryz.prog S8 := ⟨⟨_, Tryz.func116, by kernel_rfl, by kernel_rfl⟩⟩
abbrev jO : Nat := 117
theorem bx3 : Tryz.prog.funcs[jO]? = some Tryz.f117 := Tryz.func117
theorem aj2 : Callable Tryz.prog jO := ⟨⟨_, Tryz.func117, by kernel_rfl, by kernel_rfl⟩⟩
abbrev X3 : Nat := 118
theorem rV : Tryz.prog.funcs[X3]? = some Tryz.f118 := Tryz.func118
theorem qR : Callable Tryz.prog X3 := ⟨⟨_, Tryz.func118, by kernel_rfl, by kernel_rfl⟩⟩
abbrev V4 : Nat := 119
theorem qQ : Tryz.prog.funcs[V4]? = some Tryz.f119 := Tryz.func119
theorem mY : Callable Tryz.prog V4 := ⟨⟨_, Tryz.func119, by kernel_rfl, by kernel_rfl⟩⟩
abbrev S7 : Nat := 120
theorem mJ : Tryz.prog.funcs[S7]? = some Tryz.f120 := Tryz.func120
theorem lL : Callable Tryz.prog S7 := ⟨⟨_, Tryz.func120, by kernel_rfl, by kernel_rfl⟩⟩
abbrev dP : Nat := 121
theorem aj4 : Tryz.prog.funcs[dP]? = some Tryz.f121 := Tryz.func121
theorem xV : Callable Tryz.prog dP := ⟨⟨_, Tryz.func121, by kernel_rfl, by kernel_rfl⟩⟩
abbrev xM : Nat := 122
theorem jz0 : Tryz.prog.funcs[xM]? = some Tryz.f122 := Tryz.func122
theorem iq1 : Callable Tryz.prog xM := ⟨⟨_, Tryz.func122, by kernel_rfl, by kernel_rfl⟩⟩
abbrev E7 : Nat := 124
theorem G9 : Tryz.prog.funcs[E7]? = some Tryz.f124 := Tryz.func124
theorem sS : Callable Tryz.prog E7 := ⟨⟨_, Tryz.func124, by kernel_rfl, by kernel_rfl⟩⟩
abbrev N1 : Nat := 141
theorem tN : Tryz.prog.funcs[N1]? = some Tryz.f141 := Tryz.func141
theorem qU : Callable Tryz.prog N1 := ⟨⟨_, Tryz.func141, by kernel_rfl, by kernel_rfl⟩⟩
abbrev O4 : Nat := 142
theorem wY : Tryz.prog.funcs[O4]? = some Tryz.f142 := Tryz.func142
theorem tR : Callable Tryz.prog O4 := ⟨⟨_, Tryz.func142, by kernel_rfl, by kernel_rfl⟩⟩
abbrev O3 : Nat := 143
theorem wX : Tryz.prog.funcs[O3]? = some Tryz.f143 := Tryz.func143
theorem tQ : Callable Tryz.prog O3 := ⟨⟨_, Tryz.func143, by kernel_rfl, by kernel_rfl⟩⟩
abbrev J9 : Nat := 146
theorem mI : Tryz.prog.funcs[J9]? = some Tryz.f146 := Tryz.func146
theorem lK : Callable Tryz.prog J9 := ⟨⟨_, Tryz.func146, by kernel_rfl, by kernel_rfl⟩⟩
abbrev K0 : Nat := 147
theorem mP : Tryz.prog.funcs[K0]? = some Tryz.f147 := Tryz.func147
theorem lO : Callable Tryz.prog K0 := ⟨⟨_, Tryz.func147, by kernel_rfl, by kernel_rfl⟩⟩
abbrev M6 : Nat := 148
theorem rQ : Tryz.prog.funcs[M6]? = some Tryz.f148 := Tryz.func148
theorem qL : Callable Tryz.prog M6 := ⟨⟨_, Tryz.func148, by kernel_rfl, by kernel_rfl⟩⟩
end F
namespace T
abbrev int : Nat := 3
theorem zE : Tryz.prog.underlying int = some (.int .i64) := Tryz.underlying3
theorem q7 : Sz Tryz.prog int 1 := by unfold Sz; kernel_rfl
theorem i7 : NoR Tryz.prog int := ⟨_, Tryz.underlying3, rfl⟩
abbrev bool : Nat := 4
theorem u_bool : Tryz.prog.underlying bool = some (.bool) := Tryz.underlying4
theorem az4 : Sz Tryz.prog bool 1 := by unfold Sz; kernel_rfl
theorem qH : NoR Tryz.prog bool := ⟨_, Tryz.underlying4, rfl⟩
abbrev u8 : Nat := 5
abbrev string : Nat := 9
theorem R8 : Tryz.prog.underlying string = some (.string) := Tryz.underlying9
theorem gq6 : Sz Tryz.prog string 1 := by unfold Sz; kernel_rfl
theorem z6 : NoR Tryz.prog string := ⟨_, Tryz.underlying9, rfl⟩
abbrev int32 : Nat := 21
abbrev pP : Nat := 23
theorem bP : Sz Tryz.prog pP 6 := by unfold Sz; kernel_rfl
theorem kX : IsR Tryz.prog pP := ⟨_, Tryz.underlying23, rfl⟩
abbrev ints : Nat := 24
theorem l4 : Tryz.prog.underlying ints = some (.slice 3) := Tryz.underlying24
theorem K8 : Sz Tryz.prog ints 1 := by unfold Sz; kernel_rfl
theorem m8 : NoR Tryz.prog ints := ⟨_, Tryz.underlying24, rfl⟩
theorem S3 : ElT Tryz.prog ints 3 1 8 := ElT.of (z := (.int .i64 0)) Tryz.underlying24 (by kernel_rfl) rfl (by decide)
abbrev aY : Nat := 25
theorem C9 : Tryz.prog.underlying aY = some (.slice 65) := Tryz.underlying25
theorem kW : Sz Tryz.prog aY 1 := by unfold Sz; kernel_rfl
theorem E3 : NoR Tryz.prog aY := ⟨_, Tryz.underlying25, rfl⟩
theorem aq6 : ElT Tryz.prog aY 65 3 24 := ElT.of (z := (.agg #[(.int .i64 0), (.int .i64 0), (.int .i64 0)])) Tryz.underlying25 (by kernel_rfl) rfl (by decide)
abbrev C4 : Nat := 27
theorem A3 : Sz Tryz.prog C4 8 := by unfold Sz; kernel_rfl
theorem B7 : IsR Tryz.prog C4 := ⟨_, Tryz.underlying27, rfl⟩
abbrev kz3 : Nat := 30
abbrev L_api_Sales : Nat := 33
abbrev wF : Nat := 34
theorem kV : Sz Tryz.prog wF 1 := by unfold Sz; kernel_rfl
theorem wM : NoR Tryz.prog wF := ⟨_, Tryz.underlying34, rfl⟩
abbrev api_Errno : Nat := 36
abbrev V0 : Nat := 45
theorem t9 : Tryz.prog.underlying V0 = some (.slice 101) := Tryz.underlying45
theorem mU : Sz Tryz.prog V0 1 := by unfold Sz; kernel_rfl
theorem q9 : NoR Tryz.prog V0 := ⟨_, Tryz.underlying45, rfl⟩
theorem pD : ElT Tryz.prog V0 101 2 24 := ElT.of (z := (.agg #[(.string ⟨#[]⟩), (.int .i64 0)])) Tryz.underlying45 (by kernel_rfl) rfl (by decide)
abbrev cR : Nat := 46
theorem k9 : Tryz.prog.underlying cR = some (.slice 99) := Tryz.underlying46
theorem dL : Sz Tryz.prog cR 1 := by unfold Sz; kernel_rfl
theorem j6 : NoR Tryz.prog cR := ⟨_, Tryz.underlying46, rfl⟩
theorem dZ : ElT Tryz.prog cR 99 4 56 := ElT.of (z := (.agg #[(.string ⟨#[]⟩), (.int .i64 0), (.int .i64 0), (.slice none 0 0)])) Tryz.underlying46 (by kernel_rfl) rfl (by decide)
abbrev k7 : Nat := 48
theorem k8 : Sz Tryz.prog k7 2 := by unfold Sz; kernel_rfl
theorem m4 : IsR Tryz.prog k7 := ⟨_, Tryz.underlying48, rfl⟩
abbrev jq3 : Nat := 51
theorem P6 : Tryz.prog.underlying jq3 = some (.slice 48) := Tryz.underlying51
abbrev intss : Nat := 53
theorem L4 : Tryz.prog.underlying intss = some (.slice 24) := Tryz.underlying53
theorem sj6 : ElT Tryz.prog intss 24 1 24 := ElT.of (z := (.slice none 0 0)) Tryz.underlying53 (by kernel_rfl) rfl (by decide)
abbrev uC : Nat := 65
theorem y5 : Sz Tryz.prog uC 3 := by unfold Sz; kernel_rfl
theorem G1 : IsR Tryz.prog uC := ⟨_, Tryz.underlying65, rfl⟩
abbrev mj7 : Nat := 67
theorem N5 : Tryz.prog.underlying mj7 = some (.slice 128) := Tryz.underlying67
abbrev u64 : Nat := 73
theorem qq5 : Tryz.prog.underlying u64 = some (.int .u64) := Tryz.underlying73
theorem hz9 : Sz Tryz.prog u64 1 := by unfold Sz; kernel_rfl
theorem W4 : NoR Tryz.prog u64 := ⟨_, Tryz.underlying73, rfl⟩
abbrev uD : Nat := 75
abbrev uint : Nat := 80
theorem kz8 : Tryz.prog.underlying uint = some (.int .u64) := Tryz.underlying80
abbrev gj8 : Nat := 84
theorem N7 : NoR Tryz.prog gj8 := ⟨_, Tryz.underlying84, rfl⟩
abbrev J4 : Nat := 95
theorem w5 : Sz Tryz.prog J4 2 := by unfold Sz; kernel_rfl
theorem B3 : IsR Tryz.prog J4 := ⟨_, Tryz.underlying95, rfl⟩
abbrev lW : Nat := 96
theorem y8 : NoR Tryz.prog lW := ⟨_, Tryz.underlying96, rfl⟩
abbrev C5 : Nat := 99
theorem u0 : Sz Tryz.prog C5 4 := by unfold Sz; kernel_rfl
theorem L6 : IsR Tryz.prog C5 := ⟨_, Tryz.underlying99, rfl⟩
abbrev Y7 : Nat := 101
theorem A7 : Sz Tryz.prog Y7 2 := by unfold Sz; kernel_rfl
theorem O6 : IsR Tryz.prog Y7 := ⟨_, Tryz.underlying101, rfl⟩
abbrev strs : Nat := 103
theorem hq8 : Tryz.prog.underlying strs = some (.slice 9) := Tryz.underlying103
abbrev func_int_bool : Nat := 105
abbrev N2 : Nat := 108
theorem D8 : Sz Tryz.prog N2 3 := by unfold Sz; kernel_rfl
theorem J5 : IsR Tryz.prog N2 := ⟨_, Tryz.underlying108, rfl⟩
abbrev aE : Nat := 110
theorem V1 : NoR Tryz.prog aE := ⟨_, Tryz.underlying110, rfl⟩
abbrev y9 : Nat := 112
theorem L5 : Sz Tryz.prog y9 5 := by unfold Sz; kernel_rfl
abbrev dj4 : Nat := 113
theorem S6 : Tryz.prog.underlying dj4 = some (.slice 117) := Tryz.underlying113
theorem jx3 : Sz Tryz.prog dj4 1 := by unfold Sz; kernel_rfl
theorem dz6 : NoR Tryz.prog dj4 := ⟨_, Tryz.underlying113, rfl⟩
abbrev mj4 : Nat := 115
theorem uG : Tryz.prog.underlying mj4 = some (.int .u64) := Tryz.underlying115
abbrev aN : Nat := 117
theorem jq8 : Tryz.prog.underlying aN = some (.slice 4) := Tryz.underlying117
theorem bB : Sz Tryz.prog aN 1 := by unfold Sz; kernel_rfl
theorem dB : NoR Tryz.prog aN := ⟨_, Tryz.underlying117, rfl⟩
theorem px5 : ElT Tryz.prog aN 4 1 1 := ElT.of (z := (.bool false)) Tryz.underlying117 (by kernel_rfl) rfl (by decide)
abbrev zW : Nat := 125
theorem qY : Tryz.prog.underlying zW = some (.slice 108) := Tryz.underlying125
theorem cx0 : ElT Tryz.prog zW 108 3 40 := ElT.of (z := (.agg #[(.slice none 0 0), (.int .i64 0), (.int .i64 0)])) Tryz.underlying125 (by kernel_rfl) rfl (by decide)
abbrev kx5 : Nat := 128
theorem Z0 : Sz Tryz.prog kx5 2 := by unfold Sz; kernel_rfl
theorem iq0 : IsR Tryz.prog kx5 := ⟨_, Tryz.underlying128, rfl⟩
abbrev bold_tariff : Nat := 130
abbrev cz2 : Nat := 132
abbrev hq5 : Nat := 134
abbrev hj9 : Nat := 135
abbrev cK : Nat := 136
theorem lP : Sz Tryz.prog cK 1 := by unfold Sz; kernel_rfl
theorem u3 : NoR Tryz.prog cK := ⟨_, Tryz.underlying136, rfl⟩
abbrev hj3 : Nat := 137
theorem ij0 : Sz Tryz.prog hj3 1 := by unfold Sz; kernel_rfl
theorem pG : NoR Tryz.prog hj3 := ⟨_, Tryz.underlying137, rfl⟩
abbrev dj3 : Nat := 138
theorem M5 : Tryz.prog.underlying dj3 = some (.slice 95) := Tryz.underlying138
abbrev gj1 : Nat := 141
theorem xK : Sz Tryz.prog gj1 2 := by unfold Sz; kernel_rfl
abbrev iq8 : Nat := 142
theorem bM : Tryz.prog.underlying iq8 = some (.map 3 4) := Tryz.underlying142
abbrev P_trade_list : Nat := 150
abbrev kz2 : Nat := 157
abbrev lx8 : Nat := 159
abbrev S5 : Nat := 162
theorem uH : Tryz.prog.underlying S5 = some (.slice 172) := Tryz.underlying162
theorem rU : Sz Tryz.prog S5 1 := by unfold Sz; kernel_rfl
theorem Z4 : NoR Tryz.prog S5 := ⟨_, Tryz.underlying162, rfl⟩
theorem tJ : ElT Tryz.prog S5 172 1 1 := ElT.of (z := (.int .u8 0)) Tryz.underlying162 (by kernel_rfl) rfl (by decide)
abbrev aX : Nat := 163
theorem bN : Tryz.prog.underlying aX = some (.slice 168) := Tryz.underlying163
theorem Z8 : Sz Tryz.prog aX 1 := by unfold Sz; kernel_rfl
theorem I5 : NoR Tryz.prog aX := ⟨_, Tryz.underlying163, rfl⟩
theorem aH : ElT Tryz.prog aX 168 1 16 := ElT.of (z := .nilIface) Tryz.underlying163 (by kernel_rfl) rfl (by decide)
abbrev rP : Nat := 165
abbrev chan_int : Nat := 166
abbrev X1 : Nat := 168
theorem dj9 : Sz Tryz.prog X1 1 := by unfold Sz; kernel_rfl
theorem aq9 : NoR Tryz.prog X1 := ⟨_, Tryz.underlying168, rfl⟩
abbrev dH : Nat := 172
theorem xJ : Sz Tryz.prog dH 1 := by unfold Sz; kernel_rfl
theorem tL : NoR Tryz.prog dH := ⟨_, Tryz.underlying172, rfl⟩
abbrev rA : Nat := 175
abbrev rB : Nat := 177
abbrev zF : Nat := 179
abbrev uint32 : Nat := 182
theorem iV (p : Addr) (w : World) : (Instr.fieldAt 23 (.pointer (some p)) 0).run Tryz.prog w = .ok (.pointer (some (p.add 0))) w := by kernel_rfl
theorem iU (p : Addr) (w : World) : (Instr.fieldAt 23 (.pointer (some p)) 1).run Tryz.prog w = .ok (.pointer (some (p.add 1))) w := by kernel_rfl
theorem iT (p : Addr) (w : World) : (Instr.fieldAt 23 (.pointer (some p)) 2).run Tryz.prog w = .ok (.pointer (some (p.add 2))) w := by kernel_rfl
theorem iS (p : Addr) (w : World) : (Instr.fieldAt 23 (.pointer (some p)) 3).run Tryz.prog w = .ok (.pointer (some (p.add 3))) w := by kernel_rfl
theorem iR (p : Addr) (w : World) : (Instr.fieldAt 23 (.pointer (some p)) 4).run Tryz.prog w = .ok (.pointer (some (p.add 4))) w := by kernel_rfl
theorem iQ (p : Addr) (w : World) : (Instr.fieldAt 23 (.pointer (some p)) 5).run Tryz.prog w = .ok (.pointer (some (p.add 5))) w := by kernel_rfl
theorem W3 (p : Addr) (w : World) : (Instr.fieldAt 27 (.pointer (some p)) 0).run Tryz.prog w = .ok (.pointer (some (p.add 0))) w := by kernel_rfl
theorem I1 (p : Addr) (w : World) : (Instr.fieldAt 27 (.pointer (some p)) 1).run Tryz.prog w = .ok (.pointer (some (p.add 6))) w := by kernel_rfl
theorem E6 (p : Addr) (w : World) : (Instr.fieldAt 27 (.pointer (some p)) 2).run Tryz.prog w = .ok (.pointer (some (p.add 7))) w := by kernel_rfl
theorem q8 (p : Addr) (w : World) : (Instr.fieldAt 48 (.pointer (some p)) 0).run Tryz.prog w = .ok (.pointer (some (p.add 0))) w := by kernel_rfl
theorem j4 (p : Addr) (w : World) : (Instr.fieldAt 48 (.pointer (some p)) 1).run Tryz.prog w = .ok (.pointer (some (p.add 1))) w := by kernel_rfl
theorem S2 (p : Addr) (w : World) : (Instr.fieldAt 65 (.pointer (some p)) 0).run Tryz.prog w = .ok (.pointer (some (p.add 0))) w := by kernel_rfl
theorem aG (p : Addr) (w : World) : (Instr.fieldAt 65 (.pointer (some p)) 1).run Tryz.prog w = .ok (.pointer (some (p.add 1))) w := by kernel_rfl
theorem S1 (p : Addr) (w : World) : (Instr.fieldAt 65 (.pointer (some p)) 2).run Tryz.prog w = .ok (.pointer (some (p.add 2))) w := by kernel_rfl
theorem W1 (p : Addr) (w : World) : (Instr.fieldAt 75 (.pointer (some p)) 0).run Tryz.prog w = .ok (.pointer (some (p.add 0))) w := by kernel_rfl
theorem J2 (p : Addr) (w : World) : (Instr.fieldAt 75 (.pointer (some p)) 1).run Tryz.prog w = .ok (.pointer (some (p.add 1))) w := by kernel_rfl
theorem u6 (p : Addr) (w : World) : (Instr.fieldAt 75 (.pointer (some p)) 2).run Tryz.prog w = .ok (.pointer (some (p.add 2))) w := by kernel_rfl
theorem I4 (p : Addr) (w : World) : (Instr.fieldAt 95 (.pointer (some p)) 0).run Tryz.prog w = .ok (.pointer (some (p.add 0))) w := by kernel_rfl
theorem W2 (p : Addr) (w : World) : (Instr.fieldAt 95 (.pointer (some p)) 1).run Tryz.prog w = .ok (.pointer (some (p.add 1))) w := by kernel_rfl
theorem D7 (p : Addr) (w : World) : (Instr.fieldAt 99 (.pointer (some p)) 0).run Tryz.prog w = .ok (.pointer (some (p.add 0))) w := by kernel_rfl
theorem A8 (p : Addr) (w : World) : (Instr.fieldAt 99 (.pointer (some p)) 1).run Tryz.prog w = .ok (.pointer (some (p.add 1))) w := by kernel_rfl
theorem B8 (p : Addr) (w : World) : (Instr.fieldAt 99 (.pointer (some p)) 2).run Tryz.prog w = .ok (.pointer (some (p.add 2))) w := by kernel_rfl
theorem u9 (p : Addr) (w : World) : (Instr.fieldAt 99 (.pointer (some p)) 3).run Tryz.prog w = .ok (.pointer (some (p.add 3))) w := by kernel_rfl
theorem K5 (p : Addr) (w : World) : (Instr.fieldAt 101 (.pointer (some p)) 0).run Tryz.prog w = .ok (.pointer (some (p.add 0))) w := by kernel_rfl
theorem K4 (p : Addr) (w : World) : (Instr.fieldAt 101 (.pointer (some p)) 1).run Tryz.prog w = .ok (.pointer (some (p.add 1))) w := by kernel_rfl
theorem E5 (p : Addr) (w : World) : (Instr.fieldAt 108 (.pointer (some p)) 0).run Tryz.prog w = .ok (.pointer (some (p.add 0))) w := by kernel_rfl
theorem Q1 (p : Addr) (w : World) : (Instr.fieldAt 108 (.pointer (some p)) 1).run Tryz.prog w = .ok (.pointer (some (p.add 1))) w := by kernel_rfl
theorem G3 (p : Addr) (w : World) : (Instr.fieldAt 108 (.pointer (some p)) 2).run Tryz.prog w = .ok (.pointer (some (p.add 2))) w := by kernel_rfl
theorem v7 (p : Addr) (w : World) : (Instr.fieldAt 112 (.pointer (some p)) 0).run Tryz.prog w = .ok (.pointer (some (p.add 0))) w := by kernel_rfl
theorem C8 (p : Addr) (w : World) : (Instr.fieldAt 112 (.pointer (some p)) 1).run Tryz.prog w = .ok (.pointer (some (p.add 3))) w := by kernel_rfl
theorem U4 (p : Addr) (w : World) : (Instr.fieldAt 112 (.pointer (some p)) 2).run Tryz.prog w = .ok (.pointer (some (p.add 4))) w := by kernel_rfl
theorem rJ (p : Addr) (w : World) : (Instr.fieldAt 128 (.pointer (some p)) 0).run Tryz.prog w = .ok (.pointer (some (p.add 0))) w := by kernel_rfl
theorem rI (p : Addr) (w : World) : (Instr.fieldAt 128 (.pointer (some p)) 1).run Tryz.prog w = .ok (.pointer (some (p.add 1))) w := by kernel_rfl
theorem aq5 (p : Addr) (w : World) : (Instr.fieldAt 132 (.pointer (some p)) 0).run Tryz.prog w = .ok (.pointer (some (p.add 0))) w := by kernel_rfl
theorem pC (p : Addr) (w : World) : (Instr.fieldAt 134 (.pointer (some p)) 0).run Tryz.prog w = .ok (.pointer (some (p.add 0))) w := by kernel_rfl
theorem cq9 (p : Addr) (w : World) : (Instr.fieldAt 134 (.pointer (some p)) 1).run Tryz.prog w = .ok (.pointer (some (p.add 1))) w := by kernel_rfl
theorem cq8 (p : Addr) (w : World) : (Instr.fieldAt 135 (.pointer (some p)) 0).run Tryz.prog w = .ok (.pointer (some (p.add 0))) w := by kernel_rfl
theorem cq7 (p : Addr) (w : World) : (Instr.fieldAt 135 (.pointer (some p)) 1).run Tryz.prog w = .ok (.pointer (some (p.add 1))) w := by kernel_rfl
theorem tH (p : Addr) (w : World) : (Instr.fieldAt 141 (.pointer (some p)) 0).run Tryz.prog w = .ok (.pointer (some (p.add 0))) w := by kernel_rfl
theorem tG (p : Addr) (w : World) : (Instr.fieldAt 141 (.pointer (some p)) 1).run Tryz.prog w = .ok (.pointer (some (p.add 1))) w := by kernel_rfl
theorem aF (p : Addr) (w : World) : (Instr.fieldAt 165 (.pointer (some p)) 1).run Tryz.prog w = .ok (.pointer (some (p.add 2))) w := by kernel_rfl
theorem G4 (p : Addr) (w : World) : (Instr.fieldAt 165 (.pointer (some p)) 2).run Tryz.prog w = .ok (.pointer (some (p.add 3))) w := by kernel_rfl
theorem tE (p : Addr) (w : World) : (Instr.fieldAt 175 (.pointer (some p)) 0).run Tryz.prog w = .ok (.pointer (some (p.add 0))) w := by kernel_rfl
theorem tF (p : Addr) (w : World) : (Instr.fieldAt 177 (.pointer (some p)) 1).run Tryz.prog w = .ok (.pointer (some (p.add 1))) w := by kernel_rfl
theorem yG (p : Addr) (w : World) : (Instr.fieldAt 179 (.pointer (some p)) 0).run Tryz.prog w = .ok (.pointer (some (p.add 0))) w := by kernel_rfl
theorem sz0 (w : World) : (Instr.alloc 3 true (.tuple #[])).run Tryz.prog w = .ok (.pointer (some ⟨w.heap.size, 0, none⟩)) (w.alloc (.cells #[(.int .i64 0)] 3 (0, 0))) := by kernel_rfl
theorem dj2 (w : World) : (Instr.alloc 23 true (.tuple #[])).run Tryz.prog w = .ok (.pointer (some ⟨w.heap.size, 0, none⟩)) (w.alloc (.cells #[(.int .i64 0), (.int .i64 0), (.int .i64 0), (.int .i64 0), (.int .i64 0), (.int .i64 0)] 23 (0, 0))) := by kernel_rfl
theorem al_ints (w : World) : (Instr.alloc 24 true (.tuple #[])).run Tryz.prog w = .ok (.pointer (some ⟨w.heap.size, 0, none⟩)) (w.alloc (.cells #[(.slice none 0 0)] 24 (0, 0))) := by kernel_rfl
theorem aW (w : World) : (Instr.alloc 27 true (.tuple #[])).run Tryz.prog w = .ok (.pointer (some ⟨w.heap.size, 0, none⟩)) (w.alloc (.cells #[(.int .i64 0), (.int .i64 0), (.int .i64 0), (.int .i64 0), (.int .i64 0), (.int .i64 0), (.slice none 0 0), (.slice none 0 0)] 27 (0, 0))) := by kernel_rfl
theorem O7 (w : World) : (Instr.alloc 48 true (.tuple #[])).run Tryz.prog w = .ok (.pointer (some ⟨w.heap.size, 0, none⟩)) (w.alloc (.cells #[(.slice none 0 0), (.slice none 0 0)] 48 (0, 0))) := by kernel_rfl
theorem gV (w : World) : (Instr.alloc 65 true (.tuple #[])).run Tryz.prog w = .ok (.pointer (some ⟨w.heap.size, 0, none⟩)) (w.alloc (.cells #[(.int .i64 0), (.int .i64 0), (.int .i64 0)] 65 (0, 0))) := by kernel_rfl
theorem az2 (w : World) : (Instr.alloc 95 true (.tuple #[])).run Tryz.prog w = .ok (.pointer (some ⟨w.heap.size, 0, none⟩)) (w.alloc (.cells #[(.int .i64 0), .nilFunc] 95 (0, 0))) := by kernel_rfl
theorem U9 (w : World) : (Instr.alloc 99 true (.tuple #[])).run Tryz.prog w = .ok (.pointer (some ⟨w.heap.size, 0, none⟩)) (w.alloc (.cells #[(.string ⟨#[]⟩), (.int .i64 0), (.int .i64 0), (.slice none 0 0)] 99 (0, 0))) := by kernel_rfl
theorem kU (w : World) : (Instr.alloc 101 true (.tuple #[])).run Tryz.prog w = .ok (.pointer (some ⟨w.heap.size, 0, none⟩)) (w.alloc (.cells #[(.string ⟨#[]⟩), (.int .i64 0)] 101 (0, 0))) := by kernel_rfl
theorem kT (w : World) : (Instr.alloc 108 true (.tuple #[])).run Tryz.prog w = .ok (.pointer (some ⟨w.heap.size, 0, none⟩)) (w.alloc (.cells #[(.slice none 0 0), (.int .i64 0), (.int .i64 0)] 108 (0, 0))) := by kernel_rfl
theorem M0 (w : World) : (Instr.alloc 112 true (.tuple #[])).run Tryz.prog w = .ok (.pointer (some ⟨w.heap.size, 0, none⟩)) (w.alloc (.cells #[(.slice none 0 0), (.int .i64 0), (.int .i64 0), (.bool false), .nilFunc] 112 (0, 0))) := by kernel_rfl
theorem kx9 (w : World) : (Instr.alloc 113 true (.tuple #[])).run Tryz.prog w = .ok (.pointer (some ⟨w.heap.size, 0, none⟩)) (w.alloc (.cells #[(.slice none 0 0)] 113 (0, 0))) := by kernel_rfl
theorem qj5 (w : World) : (Instr.alloc 117 true (.tuple #[])).run Tryz.prog w = .ok (.pointer (some ⟨w.heap.size, 0, none⟩)) (w.alloc (.cells #[(.slice none 0 0)] 117 (0, 0))) := by kernel_rfl
theorem kx8 (w : World) : (Instr.alloc 128 true (.tuple #[])).run Tryz.prog w = .ok (.pointer (some ⟨w.heap.size, 0, none⟩)) (w.alloc (.cells #[(.int .i64 0), (.int .i64 0)] 128 (0, 0))) := by kernel_rfl
theorem mD (w : World) : (Instr.alloc 136 true (.tuple #[])).run Tryz.prog w = .ok (.pointer (some ⟨w.heap.size, 0, none⟩)) (w.alloc (.cells #[(.chan none)] 136 (0, 0))) := by kernel_rfl
theorem jq2 (w : World) : (Instr.alloc 137 true (.tuple #[])).run Tryz.prog w = .ok (.pointer (some ⟨w.heap.size, 0, none⟩)) (w.alloc (.cells #[(.chan none)] 137 (0, 0))) := by kernel_rfl
theorem zD (w : World) : (Instr.alloc 141 true (.tuple #[])).run Tryz.prog w = .ok (.pointer (some ⟨w.heap.size, 0, none⟩)) (w.alloc (.cells #[(.int .i64 0), (.int .i64 0)] 141 (0, 0))) := by kernel_rfl
theorem cP (x1 : Int) (x2 : Int) (x3 : Int) (x4 : Int) (x5 : Int) (x6 : Int) (w : World) : (Instr.build 23 #[(0, (.int .i64 x1)), (1, (.int .i64 x2)), (2, (.int .i64 x3)), (3, (.int .i64 x4)), (4, (.int .i64 x5)), (5, (.int .i64 x6))]).run Tryz.prog w = .ok (.agg #[(.int .i64 x1), (.int .i64 x2), (.int .i64 x3), (.int .i64 x4), (.int .i64 x5), (.int .i64 x6)]) w := by kernel_rfl
theorem uB (x1 : Int) (x2 : Int) (x3 : Int) (x4 : Int) (x5 : Int) (x6 : Int) (x7 : Option Addr) (x8 : Nat) (x9 : Nat) (x10 : Option Addr) (x11 : Nat) (x12 : Nat) (w : World) : (Instr.build 27 #[(0, (.agg #[(.int .i64 x1), (.int .i64 x2), (.int .i64 x3), (.int .i64 x4), (.int .i64 x5), (.int .i64 x6)])), (1, (.slice x7 x8 x9)), (2, (.slice x10 x11 x12))]).run Tryz.prog w = .ok (.agg #[(.int .i64 x1), (.int .i64 x2), (.int .i64 x3), (.int .i64 x4), (.int .i64 x5), (.int .i64 x6), (.slice x7 x8 x9), (.slice x10 x11 x12)]) w := by kernel_rfl
theorem xD (x1 : Option Addr) (x2 : Nat) (x3 : Nat) (x4 : Option Addr) (x5 : Nat) (x6 : Nat) (w : World) : (Instr.build 48 #[(0, (.slice x1 x2 x3)), (1, (.slice x4 x5 x6))]).run Tryz.prog w = .ok (.agg #[(.slice x1 x2 x3), (.slice x4 x5 x6)]) w := by kernel_rfl
theorem M4 (x1 : Int) (x2 : Int) (x3 : Int) (w : World) : (Instr.build 65 #[(0, (.int .i64 x1)), (1, (.int .i64 x2)), (2, (.int .i64 x3))]).run Tryz.prog w = .ok (.agg #[(.int .i64 x1), (.int .i64 x2), (.int .i64 x3)]) w := by kernel_rfl
theorem gU (x1 : Option Addr) (x2 : Nat) (x3 : Nat) (x4 : Int) (w : World) : (Instr.build 75 #[(0, (.slice x1 x2 x3)), (2, (.int .u64 x4))]).run Tryz.prog w = .ok (.agg #[(.slice x1 x2 x3), (.int .i64 0), (.int .u64 x4)]) w := by kernel_rfl
theorem L8 (x1 : ByteArray) (x2 : Int) (x3 : Int) (w : World) : (Instr.build 99 #[(0, (.string x1)), (1, (.int .i64 x2)), (2, (.int .i64 x3))]).run Tryz.prog w = .ok (.agg #[(.string x1), (.int .i64 x2), (.int .i64 x3), (.slice none 0 0)]) w := by kernel_rfl
theorem qX (x1 : ByteArray) (x2 : Int) (x3 : Int) (x4 : Option Addr) (x5 : Nat) (x6 : Nat) (w : World) : (Instr.build 99 #[(0, (.string x1)), (1, (.int .i64 x2)), (2, (.int .i64 x3)), (3, (.slice x4 x5 x6))]).run Tryz.prog w = .ok (.agg #[(.string x1), (.int .i64 x2), (.int .i64 x3), (.slice x4 x5 x6)]) w := by kernel_rfl
theorem xE (x1 : ByteArray) (x2 : Int) (x3 : Option Addr) (x4 : Nat) (x5 : Nat) (w : World) : (Instr.build 99 #[(0, (.string x1)), (2, (.int .i64 x2)), (3, (.slice x3 x4 x5))]).run Tryz.prog w = .ok (.agg #[(.string x1), (.int .i64 0), (.int .i64 x2), (.slice x3 x4 x5)]) w := by kernel_rfl
theorem cz9 (x1 : ByteArray) (w : World) : (Instr.build 101 #[(0, (.string x1))]).run Tryz.prog w = .ok (.agg #[(.string x1), (.int .i64 0)]) w := by kernel_rfl
theorem R0 (x1 : ByteArray) (x2 : Int) (w : World) : (Instr.build 101 #[(0, (.string x1)), (1, (.int .i64 x2))]).run Tryz.prog w = .ok (.agg #[(.string x1), (.int .i64 x2)]) w := by kernel_rfl
theorem pO (x1 : Option Addr) (x2 : Nat) (x3 : Nat) (w : World) : (Instr.build 108 #[(0, (.slice x1 x2 x3))]).run Tryz.prog w = .ok (.agg #[(.slice x1 x2 x3), (.int .i64 0), (.int .i64 0)]) w := by kernel_rfl
theorem K7 (x1 : Fn) (x2 : Array Value) (x3 : Array Value) (w : World) : (Instr.build 112 #[(2, (.func x1 x2 x3))]).run Tryz.prog w = .ok (.agg #[(.slice none 0 0), (.int .i64 0), (.int .i64 0), (.bool false), (.func x1 x2 x3)]) w := by kernel_rfl
theorem aL (x1 : Int) (x2 : Int) (w : World) : (Instr.build 128 #[(0, (.int .i64 x1)), (1, (.int .i64 x2))]).run Tryz.prog w = .ok (.agg #[(.int .i64 x1), (.int .i64 x2)]) w := by kernel_rfl
theorem kR (x1 : Int) (x2 : Int) (x3 : Int) (x4 : Int) (w : World) : (Instr.build 130 #[(0, (.int .i64 x1)), (1, (.int .i64 x2)), (2, (.int .i64 x3)), (3, (.int .i64 x4))]).run Tryz.prog w = .ok (.agg #[(.int .i64 x1), (.int .i64 x2), (.int .i64 x3), (.int .i64 x4)]) w := by kernel_rfl
theorem az1 (x1 : Option Addr) (w : World) : (Instr.build 132 #[(0, (.pointer x1))]).run Tryz.prog w = .ok (.agg #[(.pointer x1)]) w := by kernel_rfl
theorem zB (x1 : Option Addr) (x2 : Int) (w : World) : (Instr.build 134 #[(0, (.pointer x1)), (1, (.int .i64 x2))]).run Tryz.prog w = .ok (.agg #[(.pointer x1), (.int .i64 x2)]) w := by kernel_rfl
theorem zA (x1 : Option Addr) (x2 : Int) (w : World) : (Instr.build 135 #[(0, (.pointer x1)), (1, (.int .i64 x2))]).run Tryz.prog w = .ok (.agg #[(.pointer x1), (.int .i64 x2)]) w := by kernel_rfl
theorem Z6 (x1 : Int) (x2 : Int) (w : World) : (Instr.build 141 #[(0, (.int .i64 x1)), (1, (.int .i64 x2))]).run Tryz.prog w = .ok (.agg #[(.int .i64 x1), (.int .i64 x2)]) w := by kernel_rfl
theorem az0 (x1 : Option Addr) (x2 : Nat) (x3 : Nat) (x4 : Option Addr) (x5 : Nat) (x6 : Nat) (w : World) : (Instr.build 165 #[(0, (.agg #[(.slice x1 x2 x3), (.slice x4 x5 x6)]))]).run Tryz.prog w = .ok (.agg #[(.slice x1 x2 x3), (.slice x4 x5 x6), (.slice none 0 0), (.slice none 0 0)]) w := by kernel_rfl
theorem uA (x1 : Int) (w : World) : (Instr.build 175 #[(0, (.int .i64 x1))]).run Tryz.prog w = .ok (.agg #[(.int .i64 x1)]) w := by kernel_rfl
theorem pN (x1 : Int) (x2 : Option Addr) (x3 : Nat) (x4 : Nat) (w : World) : (Instr.build 177 #[(0, (.int .i64 x1)), (1, (.slice x2 x3 x4))]).run Tryz.prog w = .ok (.agg #[(.int .i64 x1), (.slice x2 x3 x4)]) w := by kernel_rfl
theorem yZ (x1 : Option Addr) (x2 : Nat) (x3 : Nat) (w : World) : (Instr.build 179 #[(0, (.slice x1 x2 x3))]).run Tryz.prog w = .ok (.agg #[(.slice x1 x2 x3)]) w := by kernel_rfl
theorem pz8  (w : World) : (Instr.buildSlice 24 0 #[]).run Tryz.prog w = .ok (.slice (some ⟨w.heap.size, 0, none⟩) 0 0) (w.alloc (.cells #[] 3 (0, 0))) := by kernel_rfl
theorem H1 (x1 : Int) (w : World) : (Instr.buildSlice 24 1 #[(0, (.int .i64 x1))]).run Tryz.prog w = .ok (.slice (some ⟨w.heap.size, 0, none⟩) 1 1) (w.alloc (.cells #[(.int .i64 x1)] 3 (0, 0))) := by kernel_rfl
theorem yN (x1 : Int) (x2 : Int) (w : World) : (Instr.buildSlice 24 2 #[(0, (.int .i64 x1)), (1, (.int .i64 x2))]).run Tryz.prog w = .ok (.slice (some ⟨w.heap.size, 0, none⟩) 2 2) (w.alloc (.cells #[(.int .i64 x1), (.int .i64 x2)] 3 (0, 0))) := by kernel_rfl
theorem bK (x1 : Int) (x2 : Int) (x3 : Int) (w : World) : (Instr.buildSlice 24 3 #[(0, (.int .i64 x1)), (1, (.int .i64 x2)), (2, (.int .i64 x3))]).run Tryz.prog w = .ok (.slice (some ⟨w.heap.size, 0, none⟩) 3 3) (w.alloc (.cells #[(.int .i64 x1), (.int .i64 x2), (.int .i64 x3)] 3 (0, 0))) := by kernel_rfl
theorem pz7 (x1 : Int) (x2 : Int) (x3 : Int) (x4 : Int) (w : World) : (Instr.buildSlice 24 4 #[(0, (.int .i64 x1)), (1, (.int .i64 x2)), (2, (.int .i64 x3)), (3, (.int .i64 x4))]).run Tryz.prog w = .ok (.slice (some ⟨w.heap.size, 0, none⟩) 4 4) (w.alloc (.cells #[(.int .i64 x1), (.int .i64 x2), (.int .i64 x3), (.int .i64 x4)] 3 (0, 0))) := by kernel_rfl
theorem pz6 (x1 : Int) (x2 : Int) (x3 : Int) (x4 : Int) (x5 : Int) (x6 : Int) (w : World) : (Instr.buildSlice 24 6 #[(0, (.int .i64 x1)), (1, (.int .i64 x2)), (2, (.int .i64 x3)), (3, (.int .i64 x4)), (4, (.int .i64 x5)), (5, (.int .i64 x6))]).run Tryz.prog w = .ok (.slice (some ⟨w.heap.size, 0, none⟩) 6 6) (w.alloc (.cells #[(.int .i64 x1), (.int .i64 x2), (.int .i64 x3), (.int .i64 x4), (.int .i64 x5), (.int .i64 x6)] 3 (0, 0))) := by kernel_rfl
theorem wQ (x1 : Int) (x2 : Int) (x3 : Int) (w : World) : (Instr.buildSlice 25 1 #[(0, (.agg #[(.int .i64 x1), (.int .i64 x2), (.int .i64 x3)]))]).run Tryz.prog w = .ok (.slice (some ⟨w.heap.size, 0, none⟩) 1 1) (w.alloc (.cells #[(.int .i64 x1), (.int .i64 x2), (.int .i64 x3)] 65 (0, 0))) := by kernel_rfl
theorem wP (x1 : Int) (x2 : Int) (x3 : Int) (x4 : Int) (x5 : Int) (x6 : Int) (w : World) : (Instr.buildSlice 25 2 #[(0, (.agg #[(.int .i64 x1), (.int .i64 x2), (.int .i64 x3)])), (1, (.agg #[(.int .i64 x4), (.int .i64 x5), (.int .i64 x6)]))]).run Tryz.prog w = .ok (.slice (some ⟨w.heap.size, 0, none⟩) 2 2) (w.alloc (.cells #[(.int .i64 x1), (.int .i64 x2), (.int .i64 x3), (.int .i64 x4), (.int .i64 x5), (.int .i64 x6)] 65 (0, 0))) := by kernel_rfl
theorem wO (x1 : Int) (x2 : Int) (x3 : Int) (x4 : Int) (x5 : Int) (x6 : Int) (x7 : Int) (x8 : Int) (x9 : Int) (w : World) : (Instr.buildSlice 25 3 #[(0, (.agg #[(.int .i64 x1), (.int .i64 x2), (.int .i64 x3)])), (1, (.agg #[(.int .i64 x4), (.int .i64 x5), (.int .i64 x6)])), (2, (.agg #[(.int .i64 x7), (.int .i64 x8), (.int .i64 x9)]))]).run Tryz.prog w = .ok (.slice (some ⟨w.heap.size, 0, none⟩) 3 3) (w.alloc (.cells #[(.int .i64 x1), (.int .i64 x2), (.int .i64 x3), (.int .i64 x4), (.int .i64 x5), (.int .i64 x6), (.int .i64 x7), (.int .i64 x8), (.int .i64 x9)] 65 (0, 0))) := by kernel_rfl
theorem yR  (w : World) : (Instr.buildSlice 45 0 #[]).run Tryz.prog w = .ok (.slice (some ⟨w.heap.size, 0, none⟩) 0 0) (w.alloc (.cells #[] 101 (0, 0))) := by kernel_rfl
theorem yQ (x1 : ByteArray) (x2 : Int) (w : World) : (Instr.buildSlice 45 1 #[(0, (.agg #[(.string x1), (.int .i64 x2)]))]).run Tryz.prog w = .ok (.slice (some ⟨w.heap.size, 0, none⟩) 1 1) (w.alloc (.cells #[(.string x1), (.int .i64 x2)] 101 (0, 0))) := by kernel_rfl
theorem yP (x1 : ByteArray) (x2 : Int) (x3 : ByteArray) (x4 : Int) (x5 : ByteArray) (x6 : Int) (x7 : ByteArray) (x8 : Int) (w : World) : (Instr.buildSlice 45 4 #[(0, (.agg #[(.string x1), (.int .i64 x2)])), (1, (.agg #[(.string x3), (.int .i64 x4)])), (2, (.agg #[(.string x5), (.int .i64 x6)])), (3, (.agg #[(.string x7), (.int .i64 x8)]))]).run Tryz.prog w = .ok (.slice (some ⟨w.heap.size, 0, none⟩) 4 4) (w.alloc (.cells #[(.string x1), (.int .i64 x2), (.string x3), (.int .i64 x4), (.string x5), (.int .i64 x6), (.string x7), (.int .i64 x8)] 101 (0, 0))) := by kernel_rfl
theorem ax1  (w : World) : (Instr.buildSlice 46 0 #[]).run Tryz.prog w = .ok (.slice (some ⟨w.heap.size, 0, none⟩) 0 0) (w.alloc (.cells #[] 99 (0, 0))) := by kernel_rfl
theorem lE (x1 : ByteArray) (x2 : Int) (x3 : Int) (x4 : Option Addr) (x5 : Nat) (x6 : Nat) (w : World) : (Instr.buildSlice 46 1 #[(0, (.agg #[(.string x1), (.int .i64 x2), (.int .i64 x3), (.slice x4 x5 x6)]))]).run Tryz.prog w = .ok (.slice (some ⟨w.heap.size, 0, none⟩) 1 1) (w.alloc (.cells #[(.string x1), (.int .i64 x2), (.int .i64 x3), (.slice x4 x5 x6)] 99 (0, 0))) := by kernel_rfl
theorem ax0 (x1 : ByteArray) (x2 : Int) (x3 : Int) (x4 : Option Addr) (x5 : Nat) (x6 : Nat) (x7 : ByteArray) (x8 : Int) (x9 : Int) (x10 : Option Addr) (x11 : Nat) (x12 : Nat) (x13 : ByteArray) (x14 : Int) (x15 : Int) (x16 : Option Addr) (x17 : Nat) (x18 : Nat) (x19 : ByteArray) (x20 : Int) (x21 : Int) (x22 : Option Addr) (x23 : Nat) (x24 : Nat) (x25 : ByteArray) (x26 : Int) (x27 : Int) (x28 : Option Addr) (x29 : Nat) (x30 : Nat) (x31 : ByteArray) (x32 : Int) (x33 : Int) (x34 : Option Addr) (x35 : Nat) (x36 : Nat) (w : World) : (Instr.buildSlice 46 6 #[(0, (.agg #[(.string x1), (.int .i64 x2), (.int .i64 x3), (.slice x4 x5 x6)])), (1, (.agg #[(.string x7), (.int .i64 x8), (.int .i64 x9), (.slice x10 x11 x12)])), (2, (.agg #[(.string x13), (.int .i64 x14), (.int .i64 x15), (.slice x16 x17 x18)])), (3, (.agg #[(.string x19), (.int .i64 x20), (.int .i64 x21), (.slice x22 x23 x24)])), (4, (.agg #[(.string x25), (.int .i64 x26), (.int .i64 x27), (.slice x28 x29 x30)])), (5, (.agg #[(.string x31), (.int .i64 x32), (.int .i64 x33), (.slice x34 x35 x36)]))]).run Tryz.prog w = .ok (.slice (some ⟨w.heap.size, 0, none⟩) 6 6) (w.alloc (.cells #[(.string x1), (.int .i64 x2), (.int .i64 x3), (.slice x4 x5 x6), (.string x7), (.int .i64 x8), (.int .i64 x9), (.slice x10 x11 x12), (.string x13), (.int .i64 x14), (.int .i64 x15), (.slice x16 x17 x18), (.string x19), (.int .i64 x20), (.int .i64 x21), (.slice x22 x23 x24), (.string x25), (.int .i64 x26), (.int .i64 x27), (.slice x28 x29 x30), (.string x31), (.int .i64 x32), (.int .i64 x33), (.slice x34 x35 x36)] 99 (0, 0))) := by kernel_rfl
theorem wN (x1 : Option Addr) (x2 : Nat) (x3 : Nat) (x4 : Option Addr) (x5 : Nat) (x6 : Nat) (x7 : Option Addr) (x8 : Nat) (x9 : Nat) (x10 : Option Addr) (x11 : Nat) (x12 : Nat) (x13 : Option Addr) (x14 : Nat) (x15 : Nat) (x16 : Option Addr) (x17 : Nat) (x18 : Nat) (w : World) : (Instr.buildSlice 51 3 #[(0, (.agg #[(.slice x1 x2 x3), (.slice x4 x5 x6)])), (1, (.agg #[(.slice x7 x8 x9), (.slice x10 x11 x12)])), (2, (.agg #[(.slice x13 x14 x15), (.slice x16 x17 x18)]))]).run Tryz.prog w = .ok (.slice (some ⟨w.heap.size, 0, none⟩) 3 3) (w.alloc (.cells #[(.slice x1 x2 x3), (.slice x4 x5 x6), (.slice x7 x8 x9), (.slice x10 x11 x12), (.slice x13 x14 x15), (.slice x16 x17 x18)] 48 (0, 0))) := by kernel_rfl
theorem cx8 (x1 : Option Addr) (x2 : Nat) (x3 : Nat) (w : World) : (Instr.buildSlice 53 1 #[(0, (.slice x1 x2 x3))]).run Tryz.prog w = .ok (.slice (some ⟨w.heap.size, 0, none⟩) 1 1) (w.alloc (.cells #[(.slice x1 x2 x3)] 24 (0, 0))) := by kernel_rfl
theorem tM (x1 : Option Addr) (x2 : Nat) (x3 : Nat) (x4 : Option Addr) (x5 : Nat) (x6 : Nat) (x7 : Option Addr) (x8 : Nat) (x9 : Nat) (w : World) : (Instr.buildSlice 53 3 #[(0, (.slice x1 x2 x3)), (1, (.slice x4 x5 x6)), (2, (.slice x7 x8 x9))]).run Tryz.prog w = .ok (.slice (some ⟨w.heap.size, 0, none⟩) 3 3) (w.alloc (.cells #[(.slice x1 x2 x3), (.slice x4 x5 x6), (.slice x7 x8 x9)] 24 (0, 0))) := by kernel_rfl
theorem ax2 (x1 : Int) (x2 : Int) (x3 : Int) (x4 : Int) (x5 : Int) (x6 : Int) (w : World) : (Instr.buildSlice 67 3 #[(0, (.agg #[(.int .i64 x1), (.int .i64 x2)])), (1, (.agg #[(.int .i64 x3), (.int .i64 x4)])), (2, (.agg #[(.int .i64 x5), (.int .i64 x6)]))]).run Tryz.prog w = .ok (.slice (some ⟨w.heap.size, 0, none⟩) 3 3) (w.alloc (.cells #[(.int .i64 x1), (.int .i64 x2), (.int .i64 x3), (.int .i64 x4), (.int .i64 x5), (.int .i64 x6)] 128 (0, 0))) := by kernel_rfl
theorem pz5 (x1 : ByteArray) (x2 : ByteArray) (x3 : ByteArray) (x4 : ByteArray) (x5 : ByteArray) (x6 : ByteArray) (x7 : ByteArray) (x8 : ByteArray) (x9 : ByteArray) (w : World) : (Instr.buildSlice 103 9 #[(0, (.string x1)), (1, (.string x2)), (2, (.string x3)), (3, (.string x4)), (4, (.string x5)), (5, (.string x6)), (6, (.string x7)), (7, (.string x8)), (8, (.string x9))]).run Tryz.prog w = .ok (.slice (some ⟨w.heap.size, 0, none⟩) 9 9) (w.alloc (.cells #[(.string x1), (.string x2), (.string x3), (.string x4), (.string x5), (.string x6), (.string x7), (.string x8), (.string x9)] 9 (0, 0))) := by kernel_rfl
theorem mj1 (x1 : ByteArray) (x2 : ByteArray) (x3 : ByteArray) (x4 : ByteArray) (x5 : ByteArray) (x6 : ByteArray) (x7 : ByteArray) (x8 : ByteArray) (x9 : ByteArray) (x10 : ByteArray) (x11 : ByteArray) (x12 : ByteArray) (x13 : ByteArray) (x14 : ByteArray) (x15 : ByteArray) (x16 : ByteArray) (w : World) : (Instr.buildSlice 103 16 #[(0, (.string x1)), (1, (.string x2)), (2, (.string x3)), (3, (.string x4)), (4, (.string x5)), (5, (.string x6)), (6, (.string x7)), (7, (.string x8)), (8, (.string x9)), (9, (.string x10)), (10, (.string x11)), (11, (.string x12)), (12, (.string x13)), (13, (.string x14)), (14, (.string x15)), (15, (.string x16))]).run Tryz.prog w = .ok (.slice (some ⟨w.heap.size, 0, none⟩) 16 16) (w.alloc (.cells #[(.string x1), (.string x2), (.string x3), (.string x4), (.string x5), (.string x6), (.string x7), (.string x8), (.string x9), (.string x10), (.string x11), (.string x12), (.string x13), (.string x14), (.string x15), (.string x16)] 9 (0, 0))) := by kernel_rfl
theorem kx2 (x1 : Bool) (w : World) : (Instr.buildSlice 117 1 #[(0, (.bool x1))]).run Tryz.prog w = .ok (.slice (some ⟨w.heap.size, 0, none⟩) 1 1) (w.alloc (.cells #[(.bool x1)] 4 (0, 0))) := by kernel_rfl
theorem yO (x1 : Option Addr) (x2 : Nat) (x3 : Nat) (x4 : Int) (x5 : Int) (w : World) : (Instr.buildSlice 125 1 #[(0, (.agg #[(.slice x1 x2 x3), (.int .i64 x4), (.int .i64 x5)]))]).run Tryz.prog w = .ok (.slice (some ⟨w.heap.size, 0, none⟩) 1 1) (w.alloc (.cells #[(.slice x1 x2 x3), (.int .i64 x4), (.int .i64 x5)] 108 (0, 0))) := by kernel_rfl
theorem pH (x1 : Int) (w : World) : (Instr.buildSlice 162 1 #[(0, (.int .u8 x1))]).run Tryz.prog w = .ok (.slice (some ⟨w.heap.size, 0, none⟩) 1 1) (w.alloc (.cells #[(.int .u8 x1)] 172 (0, 0))) := by kernel_rfl
theorem W5 (x1 : Nat) (x2 : Value) (w : World) : (Instr.buildSlice 163 1 #[(0, (.iface x1 x2))]).run Tryz.prog w = .ok (.slice (some ⟨w.heap.size, 0, none⟩) 1 1) (w.alloc (.cells #[(.iface x1 x2)] 168 (0, 0))) := by kernel_rfl
theorem dz4 (a0 b0 : Str) (a1 b1 : Int) (w : World) : (Op.equalIn 10000 101 (.agg #[.string ⟨(a0 : Str).toArray⟩, .int .i64 a1]) (.agg #[.string ⟨(b0 : Str).toArray⟩, .int .i64 b1])).run Tryz.prog w = .ok (decide ((a0, a1) = (b0, b1))) w := by
  rw [run_equalIn_agg w 9999 101 _ _ (by simp only [Program.fieldsOf, Tryz.underlying101]) (by kernel_rfl)]; simp only [Program.fieldsOf, Tryz.underlying101]
  by_cases h0 : a0 = b0 <;> by_cases h1 : a1 = b1 <;>
    simp [Op.eqFields, part, isAgg, run_equalIn_int _ 9998 3 .i64 .i64 _ _ Tryz.underlying3, run_equalIn_string _ 9998 9 _ _ Tryz.underlying9, run_underlying Tryz.underlying3, run_underlying Tryz.underlying9, h0, h1]
theorem dx3 (a0 b0 : Str) (a1 b1 : Int) (w : World) : (binOp .neq 101 (.agg #[.string ⟨(a0 : Str).toArray⟩, .int .i64 a1]) (.agg #[.string ⟨(b0 : Str).toArray⟩, .int .i64 b1])).run Tryz.prog w = .ok (.bool (decide (¬ (a0, a1) = (b0, b1)))) w := by rw [run_neq_struct, dz4, decide_not]; rfl
theorem dz5 (op : BinOp) (x y : Operand) (xs ys : Array Value) (w : World) : (eqGuard op 101 x y (.agg xs) (.agg ys)).run Tryz.prog w = .ok () w := run_eqGuard_agg w op 101 x y xs ys (by kernel_rfl)
end T
end Go.Proofs.YtdlbbfcfahahdaaGreat
end
section
namespace Go.W
universe u
open Go Go.RowKit
class El (α : Type) extends Inhabited α where
  cells : α → List Value
  sz : Nat
  len : ∀ a, (cells a).length = sz
  one : ∀ a, ∀ u ∈ cells a, u.oneCell' = true
def rows {α : Type} [El α] (l : List α) : List Value := l.flatMap El.cells
instance : El Str where
  default := []
  cells s := [str s]
  sz := 1
  len _ := rfl
  one a u h := by simp at h; subst h; rfl
instance : El Int where
  default := 0
  cells n := [int n]
  sz := 1
  len _ := rfl
  one a u h := by simp at h; subst h; rfl
instance : El UInt8 where
  default := 0
  cells n := [.int .u8 n.toNat]
  sz := 1
  len _ := rfl
  one a u h := by simp at h; subst h; rfl
abbrev Mk := Int × Int × Str
instance : El Mk where
  default := (0, 0, [])
  cells m := [int m.1, int m.2.1, str m.2.2]
  sz := 3
  len _ := rfl
  one a u h := by simp at h; rcases h with h | h | h <;> subst h <;> rfl
structure Sl (α : Type) where
  a : Option Addr
  c : Nat
  l : List α
instance {α : Type} : El (Sl α) where
  default := ⟨none, 0, []⟩
  cells p := [.slice p.a p.l.length p.c]
  sz := 1
  len _ := rfl
  one a u h := by simp at h; subst h; rfl
section
variable {α : Type} [El α]
theorem bq8 : rows ([] : List α) = [] := rfl
theorem Q5 (a : α) (l : List α) : rows (a :: l) = El.cells a ++ rows l := rfl
theorem y6 (l l' : List α) : rows (l ++ l') = rows l ++ rows l' := by simp [rows]
theorem H9 (l : List α) : (rows l).length = l.length * El.sz α := by
  induction l with
  | nil => simp [bq8]
  | cons a l ih => rw [Q5, List.length_append, El.len, ih, List.length_cons, Nat.add_mul, Nat.one_mul, Nat.add_comm]
theorem D0 (l : List α) : ∀ u ∈ rows l, u.oneCell' = true := by
  intro u hu; obtain ⟨a, _, h⟩ := List.mem_flatMap.1 hu; exact El.one a u h
theorem nz2 (l : List α) (k : Nat) : (rows l).drop (k * El.sz α) = rows (l.drop k) := by
  induction l generalizing k with
  | nil => simp [bq8]
  | cons a l ih =>
    cases k with
    | zero => simp
    | succ k =>
      rw [Q5, List.drop_succ_cons, ← ih, List.drop_append, El.len, List.drop_eq_nil_of_le (by rw [El.len, Nat.succ_mul]; omega), List.nil_append]
      congr 1
      rw [Nat.succ_mul]
      omega
theorem rows_get' (l : List α) (i j : Nat) (hi : i < l.length) (hj : j < El.sz α) : (rows l)[i * El.sz α + j]? = (El.cells (l.getD i default))[j]? := by
  have h := congrArg (·[j]?) (nz2 l i); simp only [List.getElem?_drop] at h; rw [h, List.drop_eq_getElem_cons hi, Q5, List.getElem?_append_left (by rw [El.len]; exact hj)]
  simp [List.getD_eq_getElem?_getD, hi]
theorem rows_get {l : List α} {i j : Nat} {v : Value} (hi : i < l.length) (hv : (El.cells (l.getD i default))[j]? = some v) : (rows l)[i * El.sz α + j]? = some v := by
  have hj : j < El.sz α := by
    have := (List.getElem?_eq_some_iff.1 hv).1
    rwa [El.len] at this
  rw [rows_get' l i j hi hj, hv]
theorem k6 {l : List α} {i : Nat} {v : Value} (hi : i < l.length) (hv : (El.cells (l.getD i default))[0]? = some v) : (rows l)[i * El.sz α]? = some v := rows_get (j := 0) hi hv
theorem D1 {l : List α} {i : Nat} (hi : i < l.length) : ∀ j u, (El.cells (l.getD i default))[j]? = some u → (rows l)[i * El.sz α + j]? = some u := fun j u h => rows_get hi h
theorem rows_lt {l : List α} {i : Nat} (hi : i < l.length) (h0 : 0 < El.sz α) : i * El.sz α < (rows l).length := by
  rw [H9]; exact Nat.mul_lt_mul_of_pos_right hi h0
end
theorem nL {c : Cx} {Q : Exit → Act → World → Prop} {fr : Fr} {hp : Hp} {L : List Fact} {ops : Array Oper} {rest : List Oper} {d : Tmp} {ty : TypeId} {pos : String} {af : Array Edge}
    {s t : TypeId} {x : Operand} {ks k k' : IntKind} {a : Int} (z : Int) (hd : Nat.blt d c.n = true) (hs : c.P.underlying s = some (.int ks)) (ht : c.P.underlying t = some (.int k')) (hx : ev fr x = some (.int k a)) (hz : k'.wrap a = z)
    (kk : HL c ops Q rest ((d, .int k' z) :: fr) hp L) : HL c ops Q (⟨some d, .convert s t x, ty, pos, af, none⟩ :: rest) fr hp L :=
  D3 _ rfl rfl hd (fun a' w ha _ => by
    simp only [execOp, ha.ev hx, Sem.run_bind, convert, run_underlying hs, run_underlying ht, Result.andThen_ok]; rw [← hz]
    cases ks <;> rfl) kk
theorem r_rem {c : Cx} {Q : Exit → Act → World → Prop} {fr : Fr} {hp : Hp} {L : List Fact} {ops : Array Oper} {rest : List Oper} {d : Tmp} {ty : TypeId} {pos : String} {af : Array Edge}
    {t yt : TypeId} {x y : Operand} {kd : IntKind} {a b : Int} (hd : Nat.blt d c.n = true) (hx : ev fr x = some (.int kd a)) (hy : ev fr y = some (.int kd b)) (hb : b ≠ 0)
    (kk : HL c ops Q rest ((d, .int kd (a.tmod b)) :: fr) hp L) : HL c ops Q (⟨some d, .binOp .rem t x y yt, ty, pos, af, none⟩ :: rest) fr hp L :=
  m9 _ hd hx hy (fun _ => rfl) (fun w => by
    have : (binOp .rem t (.int kd a) (.int kd b)) = Op.intDiv .rem kd a b := by cases kd <;> rfl
    rw [this]
    simp [Op.intDiv, hb]) kk
theorem r_quo {c : Cx} {Q : Exit → Act → World → Prop} {fr : Fr} {hp : Hp} {L : List Fact} {ops : Array Oper} {rest : List Oper} {d : Tmp} {ty : TypeId} {pos : String} {af : Array Edge}
    {t yt : TypeId} {x y : Operand} {kd : IntKind} {a b : Int} (z : Int) (hd : Nat.blt d c.n = true) (hx : ev fr x = some (.int kd a)) (hy : ev fr y = some (.int kd b)) (hb : b ≠ 0) (hz : kd.wrap (a.tdiv b) = z)
    (kk : HL c ops Q rest ((d, .int kd z) :: fr) hp L) : HL c ops Q (⟨some d, .binOp .quo t x y yt, ty, pos, af, none⟩ :: rest) fr hp L :=
  m9 _ hd hx hy (fun _ => rfl) (fun w => by
    have : (binOp .quo t (.int kd a) (.int kd b)) = Op.intDiv .quo kd a b := by cases kd <;> rfl
    rw [this]
    simp [Op.intDiv, hb, hz]) kk
theorem wrapU (n : Int) : 0 ≤ IntKind.u64.wrap n ∧ IntKind.u64.wrap n < 18446744073709551616 := by
  simp only [IntKind.wrap, IntKind.bits, IntKind.signed]
  simp
  omega
theorem m7 {α : Type} [El α] {c : Cx} {Q : Exit → Act → World → Prop} {fr : Fr} {hp : Hp} {L : List Fact} {ops : Array Oper} {rest : List Oper} {d : Tmp} {ty : TypeId} {pos : String} {af : Array Edge}
    {t e : TypeId} {x i : Operand} {A : Option Addr} {n cp : Nat} {kd : IntKind} {z : Int} (l : List α) (j : Nat) (hd : Nat.blt d c.n = true) (ht : c.P.underlying t = some (.slice e)) (hz : Sz c.P e (El.sz α))
    (hx : ev fr x = some (.slice A n cp)) (hi : ev fr i = some (.int kd z)) (hjz : z = (j : Int)) (hr : Row A (rows l) ∈ L) (hn : n = l.length) (hj : j < l.length) (h0 : 0 < El.sz α)
    (k : HL c ops Q rest ((d, .pointer (some ((adr A).add (j * El.sz α)))) :: fr) hp L) : HL c ops Q (⟨some d, .indexAddr t x i, ty, pos, af, none⟩ :: rest) fr hp L :=
  jz3 j hd ht hz hx hi hjz (by omega) hr (rows_lt hj h0) k
def Rows2 {α : Type} [El α] (A : Option Addr) (ps : List (Sl α)) : Fact where
  P w := (Row A (rows ps)).P w ∧ ∀ p ∈ ps, (Row p.a (rows p.l)).P w
  fp k := (Row A (rows ps)).fp k ∨ ∃ p ∈ ps, (Row p.a (rows p.l)).fp k
  st w w' h hP := ⟨(Row A (rows ps)).st w w' (fun k hk => h k (.inl hk)) hP.1, fun p hp => (Row p.a (rows p.l)).st w w' (fun k hk => h k (.inr ⟨p, hp, hk⟩)) (hP.2 p hp)⟩
  lt w hP k hk := by
    rcases hk with hk | ⟨p, hp, hk⟩
    · exact (Row A (rows ps)).lt w hP.1 k hk
    exact (Row p.a (rows p.l)).lt w (hP.2 p hp) k hk
section
variable {c : Cx} {Q : Exit → Act → World → Prop} {fr : Fr} {hp : Hp} {L : List Fact} {ops : Array Oper} {rest : List Oper}
theorem jq5 {α : Type} [El α] {b : Bx} {w : World} {A : Option Addr} {ps : List (Sl α)} (h : Rows2 A ps ∈ L) (hw : WI b w hp L) : WI b w hp (Row A (rows ps) :: L) :=
  N4 hw (hw.fs _ h).1 (fun k hk => ⟨_, h, .inl hk⟩)
theorem jq6 {α : Type} [El α] {b : Bx} {w : World} {A : Option Addr} {ps : List (Sl α)} {p : Sl α} (h : Rows2 A ps ∈ L) (hp' : p ∈ ps) (hw : WI b w hp L) : WI b w hp (Row p.a (rows p.l) :: L) :=
  N4 hw ((hw.fs _ h).2 p hp') (fun k hk => ⟨_, h, .inr ⟨p, hp', hk⟩⟩)
theorem rx5 {α : Type} [El α] {A : Option Addr} {ps : List (Sl α)} (h : Rows2 A ps ∈ L) (k : HL c ops Q rest fr hp (Row A (rows ps) :: L)) : HL c ops Q rest fr hp L := fun a w ha hw => k a w ha (jq5 h hw)
theorem rz0 {α : Type} [El α] {A : Option Addr} {ps : List (Sl α)} {x : Code} (h : Rows2 A ps ∈ L) (k : HC c x Q fr hp (Row A (rows ps) :: L)) : HC c x Q fr hp L := fun a w ha hw => k a w ha (jq5 h hw)
theorem rx6 {α : Type} [El α] {A : Option Addr} {ps : List (Sl α)} {p : Sl α} (h : Rows2 A ps ∈ L) (hp' : p ∈ ps) (k : HL c ops Q rest fr hp (Row p.a (rows p.l) :: L)) : HL c ops Q rest fr hp L := fun a w ha hw => k a w ha (jq6 h hp' hw)
theorem wD {α : Type} [El α] {A : Option Addr} {ps : List (Sl α)} {p : Sl α} {x : Code} (h : Rows2 A ps ∈ L) (hp' : p ∈ ps) (k : HC c x Q fr hp (Row p.a (rows p.l) :: L)) : HC c x Q fr hp L := fun a w ha hw => k a w ha (jq6 h hp' hw)
variable {d : Tmp} {ty : TypeId} {pos : String} {af : Array Edge}
theorem p_t {x y z : Operand} {v : Value} {b : Bool} (hd : Nat.blt d c.n = true) (hx : ev fr x = some (.bool b)) (hb : b = true) (hy : ev fr y = some v) (k : HL c ops Q rest ((d, v) :: fr) hp L) : HL c ops Q (⟨some d, .pick x y z, ty, pos, af, none⟩ :: rest) fr hp L := by
  subst hb; exact qz8 hd hx hy k
theorem p_f {x y z : Operand} {v : Value} {b : Bool} (hd : Nat.blt d c.n = true) (hx : ev fr x = some (.bool b)) (hb : b = false) (hz : ev fr z = some v) (k : HL c ops Q rest ((d, v) :: fr) hp L) : HL c ops Q (⟨some d, .pick x y z, ty, pos, af, none⟩ :: rest) fr hp L := by
  subst hb; exact qz9 hd hx hz k
theorem c_t {x : Operand} {b : Bool} {thn els : Code} (hx : ev fr x = some (.bool b)) (hb : b = true) (ht : HC c thn Q fr hp L) : HC c (.cond x thn els) Q fr hp L := by subst hb; exact pq8 hx ht
theorem c_f {x : Operand} {b : Bool} {thn els : Code} (hx : ev fr x = some (.bool b)) (hb : b = false) (hf : HC c els Q fr hp L) : HC c (.cond x thn els) Q fr hp L := by subst hb; exact pq9 hx hf
theorem bt1 {b : Bool} (h : (b == true) = true) : b = true := by cases b <;> simp_all
theorem bt2 {b : Bool} (h : (b == false) = false) : b = true := by cases b <;> simp_all
theorem bf1 {b : Bool} (h : (b == false) = true) : b = false := by cases b <;> simp_all
theorem bf2 {b : Bool} (h : (b == true) = false) : b = false := by cases b <;> simp_all
theorem P5 {o : Oper} {j : Nat} {want : Bool} {t : Tmp} {v : Value} (ho : o.dst = some d) (hg : o.guard = some (j, want)) (hd : Nat.blt d c.n = true) (hj : (ops[j]?).bind (·.dst) = some t) (hv : lk fr t = some v) (hu : v = undef)
    (k : HL c ops Q rest ((d, undef) :: fr) hp L) : HL c ops Q (o :: rest) fr hp L := by
  subst hu; intro a w ha hw; refine jq4 ?_ ?_
  · rw [Region.wanted, hg]
    show (yielded ops a.tmps j == some want) = false; have h1 := ha.at_ t _ hv
    have : yielded ops a.tmps j = none := by
      unfold yielded; rw [hj]; simp only [Option.bind_some]
      cases h2 : a.tmps[t]? with
      | none => rfl
      | some u => simp [Array.getD_eq_getD_getElem?, h2, undef] at h1; rw [h1]
    rw [this]; rfl
  rw [ho]; exact k _ _ (ha.put (by simpa using hd) _) hw
theorem t7 {dst : Option Tmp} {op : Op} {j : Nat} {want b : Bool} {t : Tmp} (hj : (ops[j]?).bind (·.dst) = some t) (hv : lk fr t = some (.bool b))
    (hy : (b == want) = true → HL c ops Q (⟨dst, op, ty, pos, af, some (j, want)⟩ :: rest) fr hp L) (hn : (b == want) = false → HL c ops Q (⟨dst, op, ty, pos, af, some (j, want)⟩ :: rest) fr hp L) :
    HL c ops Q (⟨dst, op, ty, pos, af, some (j, want)⟩ :: rest) fr hp L := by
  cases hb : (b == want)
  · exact hn hb
  exact hy hb
theorem I0 {O0 : Hp} {K : Env → Prop} {r : List Oper} {E : Env} {want b : Bool} {t : Tmp} (hv : lkE E t = some (.ex (.bool b))) (hy : (b == want) = true → HB c ops fr O0 hp L K r E) (hn : (b == want) = false → HB c ops fr O0 hp L K r E) : HB c ops fr O0 hp L K r E := by
  cases hb : (b == want)
  · exact hn hb
  exact hy hb
theorem m3 {x : Operand} {p : Prop} [Decidable p] {thn els : Code} (hx : ev fr x = some (.bool (decide p))) (ht : p → HC c thn Q fr hp L) (hf : ¬ p → HC c els Q fr hp L) : HC c (.cond x thn els) Q fr hp L :=
  w6 hx (fun h => ht (of_decide_eq_true h)) (fun h => hf (of_decide_eq_false h))
end
theorem m0 {α : Type u} {a  : α} {l : List α} : a ∈ a :: l := .head _
theorem m1 {α : Type u} {a x0 : α} {l : List α} : a ∈ x0 :: a :: l := .tail _ (.head _)
theorem m2 {α : Type u} {a x0 x1 : α} {l : List α} : a ∈ x0 :: x1 :: a :: l := .tail _ (.tail _ (.head _))
theorem perm3 {α : Type} (a b c : α) (l : List α) : (a :: b :: c :: l).Perm (c :: a :: b :: l) := by
  have h1 : (a :: b :: c :: l).Perm (a :: c :: b :: l) := (List.Perm.swap c b l).cons a; exact h1.trans (.swap c a _)
theorem perm2 {α : Type} (a b : α) (l : List α) : (a :: b :: l).Perm (b :: a :: l) := .swap b a l
theorem perm4 {α : Type} (a b c d : α) (l : List α) : (a :: b :: c :: d :: l).Perm (d :: a :: b :: c :: l) := ((perm3 b c d l).cons a).trans (.swap d a _)
end Go.W
end
section
namespace Go.W
open Go Go.RowKit
section
variable {c : Cx} {Q : Exit → Act → World → Prop} {fr : Fr} {hp : Hp} {L : List Fact} {ops : Array Oper} {rest : List Oper}
variable {d : Tmp} {ty : TypeId} {pos : String} {af : Array Edge}
theorem D4 {t e : TypeId} {x : Operand} {g : Nat} {cs : Array Value} {fz : Nat × Nat} {n : Nat} (hd : Nat.blt d c.n = true) (ht' : IsR c.P t) (hz' : Sz c.P t n) (hx : ev fr x = some (.pointer (b4 g))) (h : (g, Obj.cells cs e fz) ∈ hp) (hn : cs.size = n)
    (k : HL c ops Q rest ((d, .agg cs) :: fr) hp L) : HL c ops Q (⟨some d, .load t x, ty, pos, af, none⟩ :: rest) fr hp L :=
  D9 (cs := cs.toList) hd ht' hz' hx (by simpa using hn) (iY h (fun i u hu => by simpa using hu)) k
end
end Go.W
end
section
namespace Go.W
open Go Go.RowKit
abbrev Ment (κ : Type) := κ × Value × Nat
def entOf {κ : Type} (enc : κ → Value) (p : Ment κ) : MapEntry := ⟨enc p.1, p.2.1, p.2.2⟩
def mapO {κ : Type} (enc : κ → Value) (l : List (Ment κ)) (clk : Nat) : Obj := .map (l.map (entOf enc)).toArray clk
def findM {κ : Type} [DecidableEq κ] (k : κ) : List (Ment κ) → Nat → Option (Nat × Value)
  | [], _ => none
  | p :: l, i => if p.1 = k then some (i, p.2.1) else findM k l (i + 1)
def getM {κ : Type} [DecidableEq κ] (l : List (Ment κ)) (k : κ) : Option Value := (findM k l 0).map (·.2)
def putM {κ : Type} [DecidableEq κ] (l : List (Ment κ)) (k : κ) (v : Value) (clk : Nat) : List (Ment κ) :=
  match findM k l 0 with
  | some (i, _) => l.modify i fun p => (k, v, p.2.2)
  | none => l ++ [(k, v, clk)]
def clkM {κ : Type} [DecidableEq κ] (l : List (Ment κ)) (k : κ) (clk : Nat) : Nat := if (findM k l 0).isSome then clk else clk + 1
structure KeyC (P : Program) (kt : TypeId) {κ : Type} [DecidableEq κ] (enc : κ → Value) : Prop where
  chk : ∀ b k w, (Instr.checkKey b 10000 kt (enc k)).run P w = .ok () w
  find : ∀ k l w, (Instr.findKey kt (enc k) (l.map (entOf enc))).run P w = .ok (findM k l 0) w
  stays : ∀ k w, (Instr.keyThatStays (enc k) (enc k)).run P w = .ok (enc k) w
theorem zR (k : Int) : ∀ (l : List (Ment Int)) (i : Nat), Instr.findNow (.int .i64) (int k) (l.map (entOf int)) i = some (findM k l i)
  | [], i => rfl
  | p :: l, i => by
    rw [List.map_cons, Instr.findNow]; simp only [Instr.sameNow, entOf, findM]
    by_cases h : p.1 = k
    · simp [h]
    have h' : ¬ k = p.1 := fun e => h e.symm; simp only [if_true, h, if_false, beq_eq_false_iff_ne.2 h']; exact zR k l (i + 1)
theorem zQ (k : Str) : ∀ (l : List (Ment Str)) (i : Nat), Instr.findNow .string (str k) (l.map (entOf str)) i = some (findM k l i)
  | [], i => rfl
  | p :: l, i => by
    rw [List.map_cons, Instr.findNow]; simp only [str, Instr.sameNow, entOf, findM]
    have hb : ((ByteArray.mk k.toArray) == ByteArray.mk p.1.toArray) = decide (p.1 = k) := by
      rw [Bool.eq_iff_iff, MapKept.bytes_beq, decide_eq_true_iff]
      constructor
      · intro e
        injection e with e
        have := congrArg Array.toList e
        simpa using this.symm
      intro e; rw [e]
    rw [hb]
    by_cases h : p.1 = k
    · simp [h]
    simp only [h, decide_false, if_false]; exact zQ k l (i + 1)
theorem KeyC.int {P : Program} {kt : TypeId} (h : P.underlying kt = some (.int .i64)) : KeyC P kt W.int where
  chk b k w := MapKept.run_checkKey h (by simp [MapKept.IsKey]) b 9999
  find k l w := MapKept.run_findKey h (zR k l 0)
  stays k w := MapKept.run_keyThatStays (d := .int .i64) (by simp [MapKept.IsKey])
theorem KeyC.str {P : Program} {kt : TypeId} (h : P.underlying kt = some .string) : KeyC P kt W.str where
  chk b k w := MapKept.run_checkKey h (by simp [MapKept.IsKey, W.str]) b 9999
  find k l w := MapKept.run_findKey h (zQ k l 0)
  stays k w := MapKept.run_keyThatStays (d := .string) (by simp [MapKept.IsKey, W.str])
def pair (p : Int × Int) : Value := .agg #[W.int p.1, W.int p.2]
theorem iK {P : Program} {e : TypeId} (he : P.underlying e = some (.int .i64)) (cs : Array Value) (i : Nat) (v : Value) (hv : cs[i]? = some v) (w : World) : (part e cs i).run P w = .ok v w := by
  have hagg : (isAgg e).run P w = .ok false w := by
    unfold isAgg; rw [Sem.run_bind, run_underlying he w]
    rfl
  simp [part, Sem.run_bind, hagg, hv]
theorem lz2 {P : Program} {e : TypeId} (he : P.underlying e = some (.int .i64)) (d : Nat) (a b : Int) (w : World) : (Op.equalIn (d + 1) e (W.int a) (W.int b)).run P w = .ok (a == b) w := by
  simp [Op.equalIn, run_underlying he]
theorem eq_pair {P : Program} {kt e : TypeId} (h : P.underlying kt = some (.array 2 e)) (he : P.underlying e = some (.int .i64)) (hz : Sz P e 1) (p q : Int × Int) (w : World) : (Op.equal kt (pair p) (pair q)).run P w = .ok (decide (p = q)) w := by
  have hs := Q3 hz w
  have key : ∀ d, (Op.equalIn (d + 2) kt (pair p) (pair q)).run P w = .ok (decide (p = q)) w := by
    intro d; obtain ⟨a, b⟩ := p; obtain ⟨a', b'⟩ := q; have p0 := iK he #[W.int a, W.int b] 0 (W.int a) rfl w; have p1 := iK he #[W.int a, W.int b] 1 (W.int b) rfl w; have q0 := iK he #[W.int a', W.int b'] 0 (W.int a') rfl w; have q1 := iK he #[W.int a', W.int b'] 1 (W.int b') rfl w; unfold Op.equalIn; simp only [Sem.run_bind, run_underlying h, pair, hs, Result.andThen_ok, Std.Legacy.Range.forIn_eq_forIn_range', Std.Legacy.Range.size, Nat.sub_zero, Nat.reduceAdd, Nat.reduceSub, Nat.reduceDiv, List.range', List.forIn_cons, List.forIn_nil, Nat.zero_mul, Nat.mul_one, Nat.zero_add, p0, p1, q0, q1, lz2 he d]
    by_cases h1 : a = a'
    · subst h1
      by_cases h2 : b = b'
      · subst h2; simp [p1, lz2 he d]
      simp [h2, p1, q1, lz2 he d]
    simp [h1]
  exact key 9998
theorem cq6 {P : Program} {kt e : TypeId} (h : P.underlying kt = some (.array 2 e)) (he : P.underlying e = some (.int .i64)) (hz : Sz P e 1) (k : Int × Int) (w : World) : ∀ (l : List (Ment (Int × Int))) (i : Nat), (Instr.findAsking kt (pair k) (l.map (entOf pair)) i).run P w = .ok (findM k l i) w
  | [], i => rfl
  | p :: l, i => by
    rw [List.map_cons, Instr.findAsking]; simp only [Sem.run_bind, entOf, eq_pair h he hz, Result.andThen_ok, findM]
    by_cases hk : p.1 = k
    · simp [hk]
    have h' : ¬ k = p.1 := fun e => hk e.symm; simp only [hk, h', decide_false, Bool.false_eq_true, if_false]; exact cq6 h he hz k w l (i + 1)
theorem KeyC.pair {P : Program} {kt e : TypeId} (h : P.underlying kt = some (.array 2 e)) (he : P.underlying e = some (.int .i64)) (hz : Sz P e 1) : KeyC P kt W.pair where
  chk b k w := by
    have hs := Q3 hz w; have p0 := iK he #[W.int k.1, W.int k.2] 0 (W.int k.1) rfl w; have p1 := iK he #[W.int k.1, W.int k.2] 1 (W.int k.2) rfl w; have c : ∀ (n : Int), (Instr.checkKey b 9999 e (W.int n)).run P w = .ok () w := fun n => MapKept.run_checkKey he (by simp [MapKept.IsKey]) b 9998; unfold Instr.checkKey
    simp [run_underlying h, W.pair, hs, Std.Legacy.Range.forIn_eq_forIn_range', List.range', p0, p1, c]
  find k l w := by
    unfold Instr.findKey; simp only [Sem.run_bind, run_underlying h, Result.andThen_ok]
    have : Instr.findNow (.array 2 e) (W.pair k) (l.map (entOf W.pair)) 0 = none ∨ (l = [] ∧ Instr.findNow (.array 2 e) (W.pair k) (l.map (entOf W.pair)) 0 = some none) := by
      cases l with
      | nil => exact .inr ⟨rfl, rfl⟩
      | cons p l => exact .inl rfl
    rcases this with h1 | ⟨rfl, h1⟩
    · rw [h1]
      exact cq6 h he hz k w l 0
    rw [h1]; rfl
  stays k w := by
    obtain ⟨a, b⟩ := k
    have : Instr.sameBits 10000 (W.pair (a, b)) (W.pair (a, b)) = true := by
      simp [Instr.sameBits, W.pair]
    unfold Instr.keyThatStays; rw [if_pos this]
    rfl
/-! ### Cuts as facts; perms -/
theorem E1 {α : Type} {l l' : List α} (h : ∀ p : α → Bool, l.countP p = l'.countP p) : l.Perm l' := by
  classical
  refine List.perm_iff_count.2 fun a => ?_
  simpa [List.count] using h (· == a)
section
variable {c : Cx} {Q : Exit → Act → World → Prop} {fr : Fr} {hp : Hp} {L : List Fact} {ops : Array Oper} {rest : List Oper}
theorem qB {e : TypeId} {sz n cap : Nat} {A : Option Addr} {xs : List Value} {og : Hp} {x : Exit} (hG : Grow e sz A n cap xs og) (k : HQ c Q x fr [] (Row A xs :: L)) : HQ c Q x fr og L := fun a w ha hw => k a w ha (mF hG (by simpa using hw))
end
/-! ### The rules -/
def MapAt (b : Bx) (hp : Hp) (L : List Fact) (g : Nat) (o : Obj) : Prop := ∀ w, WI b w hp L → w.heap[g]? = some o
section
variable {κ : Type} [DecidableEq κ] {enc : κ → Value} {kt e : TypeId}
theorem mz1 {b : Bx} {hp : Hp} {L : List Fact} {g : Nat} {o : Obj} (h : (g, o) ∈ hp) : MapAt b hp L g o := fun w hw => hw.own _ h
variable {c : Cx} {Q : Exit → Act → World → Prop} {fr : Fr} {hp : Hp} {L : List Fact} {ops : Array Oper} {rest : List Oper}
variable {d : Tmp} {ty : TypeId} {pos : String} {af : Array Edge}
theorem cq5 {k : κ} : ∀ (l : List (Ment κ)) (i j : Nat) (v : Value), findM k l i = some (j, v) → ∃ m p, j = i + m ∧ l[m]? = some p ∧ p.1 = k ∧ p.2.1 = v
  | [], i, j, v, h => by simp [findM] at h
  | p :: l, i, j, v, h => by
    rw [findM] at h
    split at h
    · rename_i e
      simp only [Option.some.injEq, Prod.mk.injEq] at h; exact ⟨0, p, by omega, rfl, e, h.2⟩
    obtain ⟨m, q, h1, h2, h3⟩ := cq5 l (i + 1) j v h; exact ⟨m + 1, q, by omega, by simpa using h2, h3⟩
omit [DecidableEq κ] in
theorem bz6 {l : List (Ment κ)} {i : Nat} {k : κ} {v : Value} {p : Ment κ} (hp : l[i]? = some p) :
    ((l.map (entOf enc)).toArray.modify i fun x => { x with key := enc k, val := v }) = ((l.modify i fun p => (k, v, p.2.2)).map (entOf enc)).toArray := by
  apply Array.ext'
  simp only [Array.toList_modify]
  apply List.ext_getElem?
  intro n; simp only [List.getElem?_modify, List.getElem?_map]
  split
  · cases hl : l[n]? <;> simp [entOf]
  simp
theorem rj0 {t : TypeId} {x y z : Operand} {g : Nat} {l : List (Ment κ)} {clk : Nat} {k : κ} {v : Value} {hp' : Hp} {o : Op} (K : KeyC c.P kt enc) (ho : o = .mapUpdate t x y z ∨ o = .insert t x y z) (ht : c.P.underlying t = some (.map kt e)) (hx : ev fr x = some (.map (some g))) (hy : ev fr y = some (enc k)) (hz : ev fr z = some v)
    (hpp : hp.Perm ((g, mapO enc l clk) :: hp')) (kk : HL c ops Q rest fr ((g, mapO enc (putM l k v clk) (clkM l k clk)) :: hp') L) : HL c ops Q (⟨none, o, ty, pos, af, none⟩ :: rest) fr hp L :=
  bj1 (hok := by rcases ho with rfl | rfl <;> rfl) rfl rfl fun a w ha hw => by
    have hw' := hw.perm hpp; have hg := hw'.own (g, mapO enc l clk) (by simp); have hg' : w.heap[g]? = some (.map (l.map (entOf enc)).toArray clk) := hg; have hf := K.find k l w
    have hrun : (Instr.mapUpdate t (.map (some g)) (enc k) v).run c.P w = .ok () { w with heap := w.heap.setIfInBounds g (mapO enc (putM l k v clk) (clkM l k clk)) } := by
      unfold putM clkM
      cases hr : findM k l 0 with
      | none =>
        rw [hr] at hf; simp only [Instr.mapUpdate, Sem.run_bind, run_underlying ht, Result.andThen_ok, MapKept.run_getObj_map hg', K.chk, hf, MapKept.run_setObj_map _ hg']
        have : ((l.map (entOf enc)).toArray.push { key := enc k, val := v, born := clk }) = ((l ++ [(k, v, clk)]).map (entOf enc)).toArray := by
          apply Array.ext'; simp [entOf]
        rw [this]
        rfl
      | some p =>
        obtain ⟨i, u⟩ := p; rw [hr] at hf; obtain ⟨m, q, h1, h2, h3, h4⟩ := cq5 l 0 i u hr; have e1 : i = m := by omega
        subst e1
        have e2 : (((l.map (entOf enc)).toArray[i]?).map (·.key)).getD (enc k) = enc k := by
          simp [h2, entOf, h3]
        simp only [Instr.mapUpdate, Sem.run_bind, run_underlying ht, Result.andThen_ok, MapKept.run_getObj_map hg', K.chk, hf, e2, K.stays, MapKept.run_setObj_map _ hg', bz6 h2]
        rfl
    refine ⟨{ w with heap := w.heap.setIfInBounds g (mapO enc (putM l k v clk) (clkM l k clk)) }, _, L, ?_, hw'.write (o' := mapO enc (putM l k v clk) (clkM l k clk)) ⟨rfl, rfl, rfl, by simp, fun j hj hn => by simp only [List.mem_singleton] at hn; simp [Array.getElem?_setIfInBounds_ne (Ne.symm hn)], Nat.le_refl _⟩ ?_, kk⟩
    · rcases ho with rfl | rfl <;> simp only [execOp, ha.ev hx, ha.ev hy, ha.ev hz, Sem.run_bind, hrun, Result.andThen_ok, Sem.run_pure]
    have := D6 hg; simp only at this
    simp [this]
omit [DecidableEq κ] in
theorem lq2 (enc : κ → Value) {t : TypeId} (hd : Nat.blt d c.n = true) (k : ∀ g, HL c ops Q rest ((d, .map (some g)) :: fr) ((g, mapO enc [] 0) :: hp) L) : HL c ops Q (⟨some d, .makeMap t none, ty, pos, af, none⟩ :: rest) fr hp L :=
  nz4 hd k
theorem tD {k : κ} : ∀ (l : List (Ment κ)) (i : Nat), findM k l (i + 1) = (findM k l i).map fun p => (p.1 + 1, p.2)
  | [], i => rfl
  | p :: l, i => by
    simp only [findM]
    split
    · rfl
    exact tD l (i + 1)
theorem px2 (p : Ment κ) (l : List (Ment κ)) (k : κ) : getM (p :: l) k = if p.1 = k then some p.2.1 else getM l k := by
  unfold getM; simp only [findM]
  split
  · rfl
  rw [tD]; cases findM k l 0 <;> rfl
end
end Go.W
end
