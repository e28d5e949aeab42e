/- Texts of this claim, one behind another. -/
import Derived.Test.YtcdopfjiadifhaaGreatDoorProg
import Derived.KernelRfl
import Derived.Laws.StructEq
import Derived.Laws.IdiomStrings
import Derived.Test.YtcdopfjiadifhaaGreatDoorAAd
set_option linter.unusedVariables false
set_option linter.unusedSimpArgs false
section
namespace Go.Proofs.YtcdopfjiadifhaaGreatDoor
open Go Go.W
theorem mixed : Tryz.prog.follows .mixedOrders = true := by kernel_rfl
namespace F
abbrev pz5 : Nat := 3
abbrev rA : Nat := 4
theorem zR : Tryz.prog.funcs[rA]? = some Tryz.f4 := Tryz.func4
abbrev law09_large : Nat := 5
abbrev mK : Nat := 6
theorem dj0 : Tryz.prog.funcs[mK]? = some Tryz.f6 := Tryz.func6
theorem cT : Callable Tryz.prog mK := ⟨⟨_, Tryz.func6, by kernel_rfl, by kernel_rfl⟩⟩
abbrev rB : Nat := 7
theorem gz2 : Tryz.prog.funcs[rB]? = some Tryz.f7 := Tryz.func7
theorem dj2 : Callable Tryz.prog rB := ⟨⟨_, Tryz.func7, by kernel_rfl, by kernel_rfl⟩⟩
abbrev rC : Nat := 8
theorem gz3 : Tryz.prog.funcs[rC]? = some Tryz.f8 := Tryz.func8
theorem dj3 : Callable Tryz.prog rC := ⟨⟨_, Tryz.func8, by kernel_rfl, by kernel_rfl⟩⟩
abbrev vU : Nat := 9
theorem kq7 : Tryz.prog.funcs[vU]? = some Tryz.f9 := Tryz.func9
theorem tX : Callable Tryz.prog vU := ⟨⟨_, Tryz.func9, by kernel_rfl, by kernel_rfl⟩⟩
abbrev ref09_Write : Nat := 10
abbrev kit_Smudged : Nat := 11
abbrev kit_Mod : Nat := 12
abbrev aj9 : Nat := 13
theorem mx3 : Tryz.prog.funcs[aj9]? = some Tryz.f13 := Tryz.func13
theorem yM : Callable Tryz.prog aj9 := ⟨⟨_, Tryz.func13, by kernel_rfl, by kernel_rfl⟩⟩
abbrev ref09_Read : Nat := 14
abbrev rD : Nat := 15
theorem gz4 : Tryz.prog.funcs[rD]? = some Tryz.f15 := Tryz.func15
theorem dj4 : Callable Tryz.prog rD := ⟨⟨_, Tryz.func15, by kernel_rfl, by kernel_rfl⟩⟩
abbrev nG : Nat := 16
theorem kx2 : Tryz.prog.funcs[nG]? = some Tryz.f16 := Tryz.func16
theorem hx4 : Callable Tryz.prog nG := ⟨⟨_, Tryz.func16, by kernel_rfl, by kernel_rfl⟩⟩
abbrev jT : Nat := 17
theorem bq1 : Tryz.prog.funcs[jT]? = some Tryz.f17 := Tryz.func17
theorem lA : Callable Tryz.prog jT := ⟨⟨_, Tryz.func17, by kernel_rfl, by kernel_rfl⟩⟩
abbrev nD : Nat := 18
theorem kq8 : Tryz.prog.funcs[nD]? = some Tryz.f18 := Tryz.func18
theorem hq7 : Callable Tryz.prog nD := ⟨⟨_, Tryz.func18, by kernel_rfl, by kernel_rfl⟩⟩
abbrev uW : Nat := 19
theorem jz7 : Tryz.prog.funcs[uW]? = some Tryz.f19 := Tryz.func19
theorem gx8 : Callable Tryz.prog uW := ⟨⟨_, Tryz.func19, by kernel_rfl, by kernel_rfl⟩⟩
abbrev sR : Nat := 20
theorem mx4 : Tryz.prog.funcs[sR]? = some Tryz.f20 := Tryz.func20
theorem kx0 : Callable Tryz.prog sR := ⟨⟨_, Tryz.func20, by kernel_rfl, by kernel_rfl⟩⟩
abbrev qY : Nat := 21
theorem gz1 : Tryz.prog.funcs[qY]? = some Tryz.f21 := Tryz.func21
theorem dj1 : Callable Tryz.prog qY := ⟨⟨_, Tryz.func21, by kernel_rfl, by kernel_rfl⟩⟩
abbrev nF : Nat := 22
theorem kq9 : Tryz.prog.funcs[nF]? = some Tryz.f22 := Tryz.func22
theorem hq9 : Callable Tryz.prog nF := ⟨⟨_, Tryz.func22, by kernel_rfl, by kernel_rfl⟩⟩
abbrev qW : Nat := 23
theorem gx9 : Tryz.prog.funcs[qW]? = some Tryz.f23 := Tryz.func23
theorem cz8 : Callable Tryz.prog qW := ⟨⟨_, Tryz.func23, by kernel_rfl, by kernel_rfl⟩⟩
abbrev qX : Nat := 24
theorem gz0 : Tryz.prog.funcs[qX]? = some Tryz.f24 := Tryz.func24
theorem cz9 : Callable Tryz.prog qX := ⟨⟨_, Tryz.func24, by kernel_rfl, by kernel_rfl⟩⟩
abbrev jC : Nat := 25
theorem hq8 : Tryz.prog.funcs[jC]? = some Tryz.f25 := Tryz.func25
theorem gj1 : Callable Tryz.prog jC := ⟨⟨_, Tryz.func25, by kernel_rfl, by kernel_rfl⟩⟩
abbrev iD : Nat := 26
theorem jz9 : Tryz.prog.funcs[iD]? = some Tryz.f26 := Tryz.func26
theorem cA : Callable Tryz.prog iD := ⟨⟨_, Tryz.func26, by kernel_rfl, by kernel_rfl⟩⟩
abbrev mM : Nat := 27
theorem dj6 : Tryz.prog.funcs[mM]? = some Tryz.f27 := Tryz.func27
theorem cU : Callable Tryz.prog mM := ⟨⟨_, Tryz.func27, by kernel_rfl, by kernel_rfl⟩⟩
abbrev rE : Nat := 28
theorem gz5 : Tryz.prog.funcs[rE]? = some Tryz.f28 := Tryz.func28
theorem E8 : Callable Tryz.prog rE := ⟨⟨_, Tryz.func28, by kernel_rfl, by kernel_rfl⟩⟩
abbrev jU : Nat := 29
theorem bq3 : Tryz.prog.funcs[jU]? = some Tryz.f29 := Tryz.func29
theorem W7 : Callable Tryz.prog jU := ⟨⟨_, Tryz.func29, by kernel_rfl, by kernel_rfl⟩⟩
abbrev mN : Nat := 30
theorem dj7 : Tryz.prog.funcs[mN]? = some Tryz.f30 := Tryz.func30
theorem bq4 : Callable Tryz.prog mN := ⟨⟨_, Tryz.func30, by kernel_rfl, by kernel_rfl⟩⟩
abbrev vX : Nat := 31
theorem kx1 : Tryz.prog.funcs[vX]? = some Tryz.f31 := Tryz.func31
theorem cD : Callable Tryz.prog vX := ⟨⟨_, Tryz.func31, by kernel_rfl, by kernel_rfl⟩⟩
abbrev lU : Nat := 32
theorem cq8 : Tryz.prog.funcs[lU]? = some Tryz.f32 := Tryz.func32
theorem D4 : Callable Tryz.prog lU := ⟨⟨_, Tryz.func32, by kernel_rfl, by kernel_rfl⟩⟩
abbrev kq4 : Nat := 33
theorem rz9 : Tryz.prog.funcs[kq4]? = some Tryz.f33 := Tryz.func33
theorem dz9 : Callable Tryz.prog kq4 := ⟨⟨_, Tryz.func33, by kernel_rfl, by kernel_rfl⟩⟩
abbrev bU : Nat := 34
theorem mY : Tryz.prog.funcs[bU]? = some Tryz.f34 := Tryz.func34
theorem gz8 : Callable Tryz.prog bU := ⟨⟨_, Tryz.func34, by kernel_rfl, by kernel_rfl⟩⟩
abbrev Z3 : Nat := 35
theorem rM : Tryz.prog.funcs[Z3]? = some Tryz.f35 := Tryz.func35
theorem bA : Callable Tryz.prog Z3 := ⟨⟨_, Tryz.func35, by kernel_rfl, by kernel_rfl⟩⟩
abbrev ref09_Check : Nat := 36
abbrev vL : Nat := 37
theorem W9 : Tryz.prog.funcs[vL]? = some Tryz.f37 := Tryz.func37
theorem hj7 : Callable Tryz.prog vL := ⟨⟨_, Tryz.func37, by kernel_rfl, by kernel_rfl⟩⟩
abbrev ref09_split : Nat := 38
abbrev ref09_tariff : Nat := 39
abbrev ref09_numbers : Nat := 40
abbrev ref09_advert : Nat := 41
abbrev vQ : Nat := 42
theorem kq6 : Tryz.prog.funcs[vQ]? = some Tryz.f42 := Tryz.func42
theorem kB : Callable Tryz.prog vQ := ⟨⟨_, Tryz.func42, by kernel_rfl, by kernel_rfl⟩⟩
abbrev bW : Nat := 43
theorem vR : Tryz.prog.funcs[bW]? = some Tryz.f43 := Tryz.func43
theorem dG : Callable Tryz.prog bW := ⟨⟨_, Tryz.func43, by kernel_rfl, by kernel_rfl⟩⟩
abbrev yE : Nat := 44
theorem pj6 : Tryz.prog.funcs[yE]? = some Tryz.f44 := Tryz.func44
theorem az7 : Callable Tryz.prog yE := ⟨⟨_, Tryz.func44, by kernel_rfl, by kernel_rfl⟩⟩
abbrev aj1 : Nat := 45
theorem mq9 : Tryz.prog.funcs[aj1]? = some Tryz.f45 := Tryz.func45
theorem kq3 : Callable Tryz.prog aj1 := ⟨⟨_, Tryz.func45, by kernel_rfl, by kernel_rfl⟩⟩
abbrev dA : Nat := 46
theorem yI : Tryz.prog.funcs[dA]? = some Tryz.f46 := Tryz.func46
theorem vN : Callable Tryz.prog dA := ⟨⟨_, Tryz.func46, by kernel_rfl, by kernel_rfl⟩⟩
abbrev Z8 : Nat := 47
theorem hx3 : Tryz.prog.funcs[Z8]? = some Tryz.f47 := Tryz.func47
theorem gj4 : Callable Tryz.prog Z8 := ⟨⟨_, Tryz.func47, by kernel_rfl, by kernel_rfl⟩⟩
abbrev vH : Nat := 48
theorem kq2 : Tryz.prog.funcs[vH]? = some Tryz.f48 := Tryz.func48
theorem tV : Callable Tryz.prog vH := ⟨⟨_, Tryz.func48, by kernel_rfl, by kernel_rfl⟩⟩
abbrev cY : Nat := 49
theorem xZ : Tryz.prog.funcs[cY]? = some Tryz.f49 := Tryz.func49
theorem N1 : Callable Tryz.prog cY := ⟨⟨_, Tryz.func49, by kernel_rfl, by kernel_rfl⟩⟩
abbrev X4 : Nat := 50
theorem pH : Tryz.prog.funcs[X4]? = some Tryz.f50 := Tryz.func50
theorem aJ : Callable Tryz.prog X4 := ⟨⟨_, Tryz.func50, by kernel_rfl, by kernel_rfl⟩⟩
abbrev vM : Nat := 51
theorem kq5 : Tryz.prog.funcs[vM]? = some Tryz.f51 := Tryz.func51
theorem hq6 : Callable Tryz.prog vM := ⟨⟨_, Tryz.func51, by kernel_rfl, by kernel_rfl⟩⟩
abbrev N9 : Nat := 52
theorem dO : Tryz.prog.funcs[N9]? = some Tryz.f52 := Tryz.func52
theorem U0 : Callable Tryz.prog N9 := ⟨⟨_, Tryz.func52, by kernel_rfl, by kernel_rfl⟩⟩
abbrev pZ : Nat := 53
theorem gq7 : Tryz.prog.funcs[pZ]? = some Tryz.f53 := Tryz.func53
theorem cq2 : Callable Tryz.prog pZ := ⟨⟨_, Tryz.func53, by kernel_rfl, by kernel_rfl⟩⟩
abbrev nC : Nat := 54
theorem gj0 : Tryz.prog.funcs[nC]? = some Tryz.f54 := Tryz.func54
theorem y8 : Callable Tryz.prog nC := ⟨⟨_, Tryz.func54, by kernel_rfl, by kernel_rfl⟩⟩
abbrev P3 : Nat := 55
theorem gj3 : Tryz.prog.funcs[P3]? = some Tryz.f55 := Tryz.func55
theorem bx7 : Callable Tryz.prog P3 := ⟨⟨_, Tryz.func55, by kernel_rfl, by kernel_rfl⟩⟩
abbrev mZ : Nat := 56
theorem dz8 : Tryz.prog.funcs[mZ]? = some Tryz.f56 := Tryz.func56
theorem bx4 : Callable Tryz.prog mZ := ⟨⟨_, Tryz.func56, by kernel_rfl, by kernel_rfl⟩⟩
abbrev cZ : Nat := 57
theorem yH : Tryz.prog.funcs[cZ]? = some Tryz.f57 := Tryz.func57
theorem iL : Callable Tryz.prog cZ := ⟨⟨_, Tryz.func57, by kernel_rfl, by kernel_rfl⟩⟩
abbrev P5 : Nat := 58
theorem gZ : Tryz.prog.funcs[P5]? = some Tryz.f58 := Tryz.func58
theorem dL : Callable Tryz.prog P5 := ⟨⟨_, Tryz.func58, by kernel_rfl, by kernel_rfl⟩⟩
abbrev nE : Nat := 59
theorem gj2 : Tryz.prog.funcs[nE]? = some Tryz.f59 := Tryz.func59
theorem bx6 : Callable Tryz.prog nE := ⟨⟨_, Tryz.func59, by kernel_rfl, by kernel_rfl⟩⟩
abbrev mL : Nat := 60
theorem dj5 : Tryz.prog.funcs[mL]? = some Tryz.f60 := Tryz.func60
theorem bq2 : Callable Tryz.prog mL := ⟨⟨_, Tryz.func60, by kernel_rfl, by kernel_rfl⟩⟩
abbrev U8 : Nat := 61
theorem lB : Tryz.prog.funcs[U8]? = some Tryz.f61 := Tryz.func61
theorem jW : Callable Tryz.prog U8 := ⟨⟨_, Tryz.func61, by kernel_rfl, by kernel_rfl⟩⟩
abbrev nq3 : Nat := 62
abbrev ref09_within : Nat := 63
abbrev px5 : Nat := 64
abbrev dM : Nat := 65
theorem rO : Tryz.prog.funcs[dM]? = some Tryz.f65 := Tryz.func65
theorem S7 : Callable Tryz.prog dM := ⟨⟨_, Tryz.func65, by kernel_rfl, by kernel_rfl⟩⟩
abbrev aG : Nat := 66
theorem tB : Tryz.prog.funcs[aG]? = some Tryz.f66 := Tryz.func66
theorem qE : Callable Tryz.prog aG := ⟨⟨_, Tryz.func66, by kernel_rfl, by kernel_rfl⟩⟩
abbrev aj2 : Nat := 67
theorem mx0 : Tryz.prog.funcs[aj2]? = some Tryz.f67 := Tryz.func67
theorem yD : Callable Tryz.prog aj2 := ⟨⟨_, Tryz.func67, by kernel_rfl, by kernel_rfl⟩⟩
abbrev ref09_digits : Nat := 68
abbrev rN : Nat := 69
theorem gz9 : Tryz.prog.funcs[rN]? = some Tryz.f69 := Tryz.func69
theorem dz7 : Callable Tryz.prog rN := ⟨⟨_, Tryz.func69, by kernel_rfl, by kernel_rfl⟩⟩
abbrev iM : Nat := 70
theorem cM : Tryz.prog.funcs[iM]? = some Tryz.f70 := Tryz.func70
theorem bC : Callable Tryz.prog iM := ⟨⟨_, Tryz.func70, by kernel_rfl, by kernel_rfl⟩⟩
abbrev kA : Nat := 71
theorem bq9 : Tryz.prog.funcs[kA]? = some Tryz.f71 := Tryz.func71
theorem lG : Callable Tryz.prog kA := ⟨⟨_, Tryz.func71, by kernel_rfl, by kernel_rfl⟩⟩
abbrev pV : Nat := 72
theorem gq4 : Tryz.prog.funcs[pV]? = some Tryz.f72 := Tryz.func72
theorem pS : Callable Tryz.prog pV := ⟨⟨_, Tryz.func72, by kernel_rfl, by kernel_rfl⟩⟩
abbrev pY : Nat := 73
theorem gq6 : Tryz.prog.funcs[pY]? = some Tryz.f73 := Tryz.func73
theorem cq1 : Callable Tryz.prog pY := ⟨⟨_, Tryz.func73, by kernel_rfl, by kernel_rfl⟩⟩
abbrev U7 : Nat := 74
theorem kM : Tryz.prog.funcs[U7]? = some Tryz.f74 := Tryz.func74
theorem jP : Callable Tryz.prog U7 := ⟨⟨_, Tryz.func74, by kernel_rfl, by kernel_rfl⟩⟩
abbrev G0 : Nat := 75
theorem S5 : Tryz.prog.funcs[G0]? = some Tryz.f75 := Tryz.func75
theorem cL : Callable Tryz.prog G0 := ⟨⟨_, Tryz.func75, by kernel_rfl, by kernel_rfl⟩⟩
abbrev J3 : Nat := 76
theorem aO : Tryz.prog.funcs[J3]? = some Tryz.f76 := Tryz.func76
theorem N6 : Callable Tryz.prog J3 := ⟨⟨_, Tryz.func76, by kernel_rfl, by kernel_rfl⟩⟩
abbrev jL : Nat := 77
theorem bj4 : Tryz.prog.funcs[jL]? = some Tryz.f77 := Tryz.func77
theorem zD : Callable Tryz.prog jL := ⟨⟨_, Tryz.func77, by kernel_rfl, by kernel_rfl⟩⟩
abbrev aj5 : Nat := 78
theorem mx2 : Tryz.prog.funcs[aj5]? = some Tryz.f78 := Tryz.func78
theorem dN : Callable Tryz.prog aj5 := ⟨⟨_, Tryz.func78, by kernel_rfl, by kernel_rfl⟩⟩
abbrev rP : Nat := 79
theorem hj9 : Tryz.prog.funcs[rP]? = some Tryz.f79 := Tryz.func79
theorem C8 : Callable Tryz.prog rP := ⟨⟨_, Tryz.func79, by kernel_rfl, by kernel_rfl⟩⟩
abbrev kC : Nat := 80
theorem bx5 : Tryz.prog.funcs[kC]? = some Tryz.f80 := Tryz.func80
theorem aj7 : Callable Tryz.prog kC := ⟨⟨_, Tryz.func80, by kernel_rfl, by kernel_rfl⟩⟩
abbrev hj6 : Nat := 81
theorem nT : Tryz.prog.funcs[hj6]? = some Tryz.f81 := Tryz.func81
abbrev hj5 : Nat := 82
theorem nS : Tryz.prog.funcs[hj5]? = some Tryz.f82 := Tryz.func82
abbrev bF : Nat := 83
theorem uD : Tryz.prog.funcs[bF]? = some Tryz.f83 := Tryz.func83
theorem sX : Callable Tryz.prog bF := ⟨⟨_, Tryz.func83, by kernel_rfl, by kernel_rfl⟩⟩
abbrev cQ : Nat := 84
theorem wL : Tryz.prog.funcs[cQ]? = some Tryz.f84 := Tryz.func84
theorem uC : Callable Tryz.prog cQ := ⟨⟨_, Tryz.func84, by kernel_rfl, by kernel_rfl⟩⟩
abbrev yZ : Nat := 85
theorem lj3 : Tryz.prog.funcs[yZ]? = some Tryz.f85 := Tryz.func85
theorem jj8 : Callable Tryz.prog yZ := ⟨⟨_, Tryz.func85, by kernel_rfl, by kernel_rfl⟩⟩
abbrev bD : Nat := 86
theorem tZ : Tryz.prog.funcs[bD]? = some Tryz.f86 := Tryz.func86
theorem sU : Callable Tryz.prog bD := ⟨⟨_, Tryz.func86, by kernel_rfl, by kernel_rfl⟩⟩
abbrev R7 : Nat := 87
theorem jV : Tryz.prog.funcs[R7]? = some Tryz.f87 := Tryz.func87
theorem iR : Callable Tryz.prog R7 := ⟨⟨_, Tryz.func87, by kernel_rfl, by kernel_rfl⟩⟩
abbrev E9 : Nat := 88
theorem S3 : Tryz.prog.funcs[E9]? = some Tryz.f88 := Tryz.func88
theorem cK : Callable Tryz.prog E9 := ⟨⟨_, Tryz.func88, by kernel_rfl, by kernel_rfl⟩⟩
abbrev J7 : Nat := 89
theorem aZ : Tryz.prog.funcs[J7]? = some Tryz.f89 := Tryz.func89
theorem aP : Callable Tryz.prog J7 := ⟨⟨_, Tryz.func89, by kernel_rfl, by kernel_rfl⟩⟩
abbrev cj0 : Nat := 90
abbrev bG : Nat := 92
theorem uH : Tryz.prog.funcs[bG]? = some Tryz.f92 := Tryz.func92
theorem sY : Callable Tryz.prog bG := ⟨⟨_, Tryz.func92, by kernel_rfl, by kernel_rfl⟩⟩
abbrev lT : Nat := 93
theorem cq7 : Tryz.prog.funcs[lT]? = some Tryz.f93 := Tryz.func93
theorem nK : Callable Tryz.prog lT := ⟨⟨_, Tryz.func93, by kernel_rfl, by kernel_rfl⟩⟩
abbrev lV : Nat := 94
theorem cq9 : Tryz.prog.funcs[lV]? = some Tryz.f94 := Tryz.func94
theorem nL : Callable Tryz.prog lV := ⟨⟨_, Tryz.func94, by kernel_rfl, by kernel_rfl⟩⟩
abbrev iK : Nat := 95
theorem aj6 : Tryz.prog.funcs[iK]? = some Tryz.f95 := Tryz.func95
theorem yG : Callable Tryz.prog iK := ⟨⟨_, Tryz.func95, by kernel_rfl, by kernel_rfl⟩⟩
abbrev nV : Nat := 96
theorem jB : Tryz.prog.funcs[nV]? = some Tryz.f96 := Tryz.func96
theorem vT : Callable Tryz.prog nV := ⟨⟨_, Tryz.func96, by kernel_rfl, by kernel_rfl⟩⟩
abbrev V6 : Nat := 97
theorem lX : Tryz.prog.funcs[V6]? = some Tryz.f97 := Tryz.func97
theorem kN : Callable Tryz.prog V6 := ⟨⟨_, Tryz.func97, by kernel_rfl, by kernel_rfl⟩⟩
abbrev nU : Nat := 98
theorem jA : Tryz.prog.funcs[nU]? = some Tryz.f98 := Tryz.func98
theorem vS : Callable Tryz.prog nU := ⟨⟨_, Tryz.func98, by kernel_rfl, by kernel_rfl⟩⟩
abbrev tY : Nat := 99
theorem jj7 : Tryz.prog.funcs[tY]? = some Tryz.f99 := Tryz.func99
theorem tN : Callable Tryz.prog tY := ⟨⟨_, Tryz.func99, by kernel_rfl, by kernel_rfl⟩⟩
abbrev X3 : Nat := 100
theorem pG : Tryz.prog.funcs[X3]? = some Tryz.f100 := Tryz.func100
theorem lZ : Callable Tryz.prog X3 := ⟨⟨_, Tryz.func100, by kernel_rfl, by kernel_rfl⟩⟩
abbrev J1 : Nat := 101
theorem pU : Tryz.prog.funcs[J1]? = some Tryz.f101 := Tryz.func101
theorem pB : Callable Tryz.prog J1 := ⟨⟨_, Tryz.func101, by kernel_rfl, by kernel_rfl⟩⟩
abbrev jH : Nat := 102
theorem bj2 : Tryz.prog.funcs[jH]? = some Tryz.f102 := Tryz.func102
theorem Q3 : Callable Tryz.prog jH := ⟨⟨_, Tryz.func102, by kernel_rfl, by kernel_rfl⟩⟩
abbrev V7 : Nat := 103
theorem lY : Tryz.prog.funcs[V7]? = some Tryz.f103 := Tryz.func103
theorem kO : Callable Tryz.prog V7 := ⟨⟨_, Tryz.func103, by kernel_rfl, by kernel_rfl⟩⟩
abbrev K0 : Nat := 104
theorem sW : Tryz.prog.funcs[K0]? = some Tryz.f104 := Tryz.func104
theorem pT : Callable Tryz.prog K0 := ⟨⟨_, Tryz.func104, by kernel_rfl, by kernel_rfl⟩⟩
abbrev pW : Nat := 105
theorem gq5 : Tryz.prog.funcs[pW]? = some Tryz.f105 := Tryz.func105
theorem cq0 : Callable Tryz.prog pW := ⟨⟨_, Tryz.func105, by kernel_rfl, by kernel_rfl⟩⟩
abbrev Y7 : Nat := 106
theorem qH : Tryz.prog.funcs[Y7]? = some Tryz.f106 := Tryz.func106
theorem pF : Callable Tryz.prog Y7 := ⟨⟨_, Tryz.func106, by kernel_rfl, by kernel_rfl⟩⟩
abbrev B8 : Nat := 107
theorem H4 : Tryz.prog.funcs[B8]? = some Tryz.f107 := Tryz.func107
theorem R1 : Callable Tryz.prog B8 := ⟨⟨_, Tryz.func107, by kernel_rfl, by kernel_rfl⟩⟩
abbrev S2 : Nat := 108
theorem iY : Tryz.prog.funcs[S2]? = some Tryz.f108 := Tryz.func108
theorem iB : Callable Tryz.prog S2 := ⟨⟨_, Tryz.func108, by kernel_rfl, by kernel_rfl⟩⟩
abbrev I3 : Nat := 109
theorem S4 : Tryz.prog.funcs[I3]? = some Tryz.f109 := Tryz.func109
theorem R2 : Callable Tryz.prog I3 := ⟨⟨_, Tryz.func109, by kernel_rfl, by kernel_rfl⟩⟩
abbrev ax7 : Nat := 110
abbrev iq9 : Nat := 111
abbrev sj3 : Nat := 112
abbrev jN : Nat := 113
theorem bj6 : Tryz.prog.funcs[jN]? = some Tryz.f113 := Tryz.func113
theorem zF : Callable Tryz.prog jN := ⟨⟨_, Tryz.func113, by kernel_rfl, by kernel_rfl⟩⟩
abbrev jM : Nat := 114
theorem bj5 : Tryz.prog.funcs[jM]? = some Tryz.f114 := Tryz.func114
theorem zE : Callable Tryz.prog jM := ⟨⟨_, Tryz.func114, by kernel_rfl, by kernel_rfl⟩⟩
abbrev lj8 : Nat := 115
abbrev kz1 : Nat := 116
abbrev V5 : Nat := 117
theorem lS : Tryz.prog.funcs[V5]? = some Tryz.f117 := Tryz.func117
theorem kI : Callable Tryz.prog V5 := ⟨⟨_, Tryz.func117, by kernel_rfl, by kernel_rfl⟩⟩
abbrev U6 : Nat := 118
theorem kH : Tryz.prog.funcs[U6]? = some Tryz.f118 := Tryz.func118
theorem jK : Callable Tryz.prog U6 := ⟨⟨_, Tryz.func118, by kernel_rfl, by kernel_rfl⟩⟩
abbrev R4 : Nat := 119
theorem jJ : Tryz.prog.funcs[R4]? = some Tryz.f119 := Tryz.func119
theorem iP : Callable Tryz.prog R4 := ⟨⟨_, Tryz.func119, by kernel_rfl, by kernel_rfl⟩⟩
abbrev ij2 : Nat := 120
abbrev gx0 : Nat := 121
abbrev U9 : Nat := 122
theorem lC : Tryz.prog.funcs[U9]? = some Tryz.f122 := Tryz.func122
theorem jX : Callable Tryz.prog U9 := ⟨⟨_, Tryz.func122, by kernel_rfl, by kernel_rfl⟩⟩
abbrev sj4 : Nat := 123
abbrev aH : Nat := 124
theorem tD : Tryz.prog.funcs[aH]? = some Tryz.f124 := Tryz.func124
theorem qI : Callable Tryz.prog aH := ⟨⟨_, Tryz.func124, by kernel_rfl, by kernel_rfl⟩⟩
abbrev bH : Nat := 125
theorem uI : Tryz.prog.funcs[bH]? = some Tryz.f125 := Tryz.func125
theorem tF : Callable Tryz.prog bH := ⟨⟨_, Tryz.func125, by kernel_rfl, by kernel_rfl⟩⟩
abbrev aI : Nat := 126
theorem tE : Tryz.prog.funcs[aI]? = some Tryz.f126 := Tryz.func126
theorem qJ : Callable Tryz.prog aI := ⟨⟨_, Tryz.func126, by kernel_rfl, by kernel_rfl⟩⟩
abbrev Y6 : Nat := 127
theorem pR : Tryz.prog.funcs[Y6]? = some Tryz.f127 := Tryz.func127
theorem nY : Callable Tryz.prog Y6 := ⟨⟨_, Tryz.func127, by kernel_rfl, by kernel_rfl⟩⟩
abbrev jS : Nat := 128
theorem bq0 : Tryz.prog.funcs[jS]? = some Tryz.f128 := Tryz.func128
theorem zP : Callable Tryz.prog jS := ⟨⟨_, Tryz.func128, by kernel_rfl, by kernel_rfl⟩⟩
abbrev gq2 : Nat := 129
abbrev gq1 : Nat := 130
abbrev yX : Nat := 131
abbrev yU : Nat := 132
abbrev M8 : Nat := 134
theorem cV : Tryz.prog.funcs[M8]? = some Tryz.f134 := Tryz.func134
theorem cJ : Callable Tryz.prog M8 := ⟨⟨_, Tryz.func134, by kernel_rfl, by kernel_rfl⟩⟩
abbrev N8 : Nat := 135
theorem dJ : Tryz.prog.funcs[N8]? = some Tryz.f135 := Tryz.func135
theorem R9 : Callable Tryz.prog N8 := ⟨⟨_, Tryz.func135, by kernel_rfl, by kernel_rfl⟩⟩
abbrev lj9 : Nat := 136
abbrev tL : Nat := 137
abbrev gq3 : Nat := 138
abbrev mz7 : Nat := 139
abbrev nj9 : Nat := 140
abbrev pq8 : Nat := 141
abbrev lq0 : Nat := 142
abbrev G1 : Nat := 144
theorem I2 : Tryz.prog.funcs[G1]? = some Tryz.f144 := Tryz.func144
theorem uV : Callable Tryz.prog G1 := ⟨⟨_, Tryz.func144, by kernel_rfl, by kernel_rfl⟩⟩
abbrev tK : Nat := 145
abbrev gz6 : Nat := 147
abbrev rF : Nat := 148
abbrev pq7 : Nat := 149
abbrev jj6 : Nat := 150
abbrev dq0 : Nat := 151
abbrev dj9 : Nat := 152
abbrev errors_New : Nat := 153
abbrev yV : Nat := 154
abbrev jj5 : Nat := 155
abbrev kj3 : Nat := 156
abbrev ax6 : Nat := 157
abbrev Q8 : Nat := 174
theorem vK : Tryz.prog.funcs[Q8]? = some Tryz.f174 := Tryz.func174
theorem tH : Callable Tryz.prog Q8 := ⟨⟨_, Tryz.func174, by kernel_rfl, by kernel_rfl⟩⟩
abbrev S9 : Nat := 175
theorem yK : Tryz.prog.funcs[S9]? = some Tryz.f175 := Tryz.func175
theorem vP : Callable Tryz.prog S9 := ⟨⟨_, Tryz.func175, by kernel_rfl, by kernel_rfl⟩⟩
abbrev S8 : Nat := 176
theorem yJ : Tryz.prog.funcs[S8]? = some Tryz.f176 := Tryz.func176
theorem vO : Callable Tryz.prog S8 := ⟨⟨_, Tryz.func176, by kernel_rfl, by kernel_rfl⟩⟩
abbrev M3 : Nat := 179
theorem pQ : Tryz.prog.funcs[M3]? = some Tryz.f179 := Tryz.func179
theorem nX : Callable Tryz.prog M3 := ⟨⟨_, Tryz.func179, by kernel_rfl, by kernel_rfl⟩⟩
abbrev M4 : Nat := 180
theorem pX : Tryz.prog.funcs[M4]? = some Tryz.f180 := Tryz.func180
theorem pD : Callable Tryz.prog M4 := ⟨⟨_, Tryz.func180, by kernel_rfl, by kernel_rfl⟩⟩
abbrev Q2 : Nat := 181
theorem uB : Tryz.prog.funcs[Q2]? = some Tryz.f181 := Tryz.func181
theorem sV : Callable Tryz.prog Q2 := ⟨⟨_, Tryz.func181, by kernel_rfl, by kernel_rfl⟩⟩
abbrev tz1 : Nat := 195
end F
namespace T
abbrev int64 : Nat := 2
theorem u_int64 : Tryz.prog.underlying int64 = some (.int .i64) := Tryz.underlying2
abbrev int : Nat := 3
theorem pP : Tryz.prog.underlying int = some (.int .i64) := Tryz.underlying3
theorem w9 : Sz Tryz.prog int 1 := by unfold Sz; kernel_rfl
theorem b9 : NoR Tryz.prog int := ⟨_, Tryz.underlying3, rfl⟩
abbrev bool : Nat := 4
theorem rW : Sz Tryz.prog bool 1 := by unfold Sz; kernel_rfl
theorem sO : NoR Tryz.prog bool := ⟨_, Tryz.underlying4, rfl⟩
abbrev u8 : Nat := 5
theorem lj0 : Tryz.prog.underlying u8 = some (.int .u8) := Tryz.underlying5
theorem wR : Sz Tryz.prog u8 1 := by unfold Sz; kernel_rfl
theorem cell_u8 : NoR Tryz.prog u8 := ⟨_, Tryz.underlying5, rfl⟩
abbrev string : Nat := 9
theorem v8 : Tryz.prog.underlying string = some (.string) := Tryz.underlying9
theorem D0 : Sz Tryz.prog string 1 := by unfold Sz; kernel_rfl
theorem m5 : NoR Tryz.prog string := ⟨_, Tryz.underlying9, rfl⟩
abbrev interface : Nat := 20
abbrev int32 : Nat := 21
abbrev cP : Nat := 23
theorem E2 : Sz Tryz.prog cP 6 := by unfold Sz; kernel_rfl
theorem H3 : IsR Tryz.prog cP := ⟨_, Tryz.underlying23, rfl⟩
abbrev ints : Nat := 24
theorem t7 : Tryz.prog.underlying ints = some (.slice 3) := Tryz.underlying24
theorem jq3 : Sz Tryz.prog ints 1 := by unfold Sz; kernel_rfl
theorem i7 : NoR Tryz.prog ints := ⟨_, Tryz.underlying24, rfl⟩
theorem cj3 : ElT Tryz.prog ints 3 1 8 := ElT.of (z := (.int .i64 0)) Tryz.underlying24 (by kernel_rfl) rfl (by decide)
abbrev dQ : Nat := 25
theorem w8 : Tryz.prog.underlying dQ = some (.slice 52) := Tryz.underlying25
theorem K2 : Sz Tryz.prog dQ 1 := by unfold Sz; kernel_rfl
theorem d9 : NoR Tryz.prog dQ := ⟨_, Tryz.underlying25, rfl⟩
theorem O4 : ElT Tryz.prog dQ 52 3 24 := ElT.of (z := (.agg #[(.int .i64 0), (.int .i64 0), (.int .i64 0)])) Tryz.underlying25 (by kernel_rfl) rfl (by decide)
abbrev A3 : Nat := 27
theorem j9 : Sz Tryz.prog A3 8 := by unfold Sz; kernel_rfl
theorem k7 : IsR Tryz.prog A3 := ⟨_, Tryz.underlying27, rfl⟩
abbrev mz9 : Nat := 31
abbrev L_api_Sales : Nat := 33
abbrev strs : Nat := 34
theorem H9 : Tryz.prog.underlying strs = some (.slice 9) := Tryz.underlying34
abbrev api_Errno : Nat := 35
abbrev L_uint8 : Nat := 39
theorem Z4 : Tryz.prog.underlying L_uint8 = some (.slice 5) := Tryz.underlying39
abbrev G9 : Nat := 52
theorem m4 : Sz Tryz.prog G9 3 := by unfold Sz; kernel_rfl
theorem r8 : IsR Tryz.prog G9 := ⟨_, Tryz.underlying52, rfl⟩
abbrev pq1 : Nat := 55
theorem R3 : Tryz.prog.underlying pq1 = some (.slice 105) := Tryz.underlying55
abbrev bj1 : Nat := 58
theorem I0 : Tryz.prog.underlying bj1 = some (.slice 119) := Tryz.underlying58
theorem r9 : NoR Tryz.prog bj1 := ⟨_, Tryz.underlying58, rfl⟩
abbrev gj9 : Nat := 59
theorem B4 : Tryz.prog.underlying gj9 = some (.slice 114) := Tryz.underlying59
theorem m6 : NoR Tryz.prog gj9 := ⟨_, Tryz.underlying59, rfl⟩
abbrev C2 : Nat := 61
theorem v9 : Sz Tryz.prog C2 2 := by unfold Sz; kernel_rfl
theorem v5 : IsR Tryz.prog C2 := ⟨_, Tryz.underlying61, rfl⟩
abbrev xT : Nat := 68
theorem nJ : Sz Tryz.prog xT 1 := by unfold Sz; kernel_rfl
theorem yA : NoR Tryz.prog xT := ⟨_, Tryz.underlying68, rfl⟩
abbrev u64 : Nat := 70
theorem cj9 : Tryz.prog.underlying u64 = some (.int .u64) := Tryz.underlying70
theorem zA : Sz Tryz.prog u64 1 := by unfold Sz; kernel_rfl
theorem y7 : NoR Tryz.prog u64 := ⟨_, Tryz.underlying70, rfl⟩
abbrev wD : Nat := 72
abbrev hx9 : Nat := 75
theorem t6 : NoR Tryz.prog hx9 := ⟨_, Tryz.underlying75, rfl⟩
abbrev bold_advert : Nat := 79
abbrev Q9 : Nat := 96
theorem E4 : Sz Tryz.prog Q9 3 := by unfold Sz; kernel_rfl
theorem L5 : IsR Tryz.prog Q9 := ⟨_, Tryz.underlying96, rfl⟩
abbrev cW : Nat := 98
theorem Z9 : NoR Tryz.prog cW := ⟨_, Tryz.underlying98, rfl⟩
abbrev A6 : Nat := 100
theorem O5 : Sz Tryz.prog A6 5 := by unfold Sz; kernel_rfl
abbrev bj0 : Nat := 101
theorem tM : Tryz.prog.underlying bj0 = some (.slice 96) := Tryz.underlying101
theorem dx8 : ElT Tryz.prog bj0 96 3 40 := ElT.of (z := (.agg #[(.slice none 0 0), (.int .i64 0), (.int .i64 0)])) Tryz.underlying101 (by kernel_rfl) rfl (by decide)
abbrev mx7 : Nat := 105
theorem cF : Sz Tryz.prog mx7 2 := by unfold Sz; kernel_rfl
theorem jx4 : IsR Tryz.prog mx7 := ⟨_, Tryz.underlying105, rfl⟩
abbrev gq0 : Nat := 108
theorem gN : Tryz.prog.underlying gq0 = some (.slice 116) := Tryz.underlying108
theorem lj7 : Sz Tryz.prog gq0 1 := by unfold Sz; kernel_rfl
theorem gz7 : NoR Tryz.prog gq0 := ⟨_, Tryz.underlying108, rfl⟩
abbrev uint : Nat := 110
theorem nj4 : Tryz.prog.underlying uint = some (.int .u64) := Tryz.underlying110
abbrev pj7 : Nat := 111
theorem wH : Tryz.prog.underlying pj7 = some (.int .u64) := Tryz.underlying111
abbrev yR : Nat := 114
theorem J6 : Sz Tryz.prog yR 4 := by unfold Sz; kernel_rfl
theorem mD : IsR Tryz.prog yR := ⟨_, Tryz.underlying114, rfl⟩
abbrev dC : Nat := 116
theorem sq2 : Tryz.prog.underlying dC = some (.slice 4) := Tryz.underlying116
theorem rX : Sz Tryz.prog dC 1 := by unfold Sz; kernel_rfl
theorem az5 : NoR Tryz.prog dC := ⟨_, Tryz.underlying116, rfl⟩
theorem rx4 : ElT Tryz.prog dC 4 1 1 := ElT.of (z := (.bool false)) Tryz.underlying116 (by kernel_rfl) rfl (by decide)
abbrev func_int_bool : Nat := 117
abbrev iz9 : Nat := 119
theorem K8 : Sz Tryz.prog iz9 2 := by unfold Sz; kernel_rfl
theorem jQ : IsR Tryz.prog iz9 := ⟨_, Tryz.underlying119, rfl⟩
abbrev bold_tariff : Nat := 122
abbrev iJ : Nat := 124
theorem gq9 : Sz Tryz.prog iJ 1 := by unfold Sz; kernel_rfl
abbrev lK : Nat := 126
theorem jq6 : Sz Tryz.prog lK 2 := by unfold Sz; kernel_rfl
abbrev sQ : Nat := 127
theorem jq5 : Sz Tryz.prog sQ 2 := by unfold Sz; kernel_rfl
abbrev mx1 : Nat := 130
theorem lj6 : Sz Tryz.prog mx1 0 := by unfold Sz; kernel_rfl
abbrev P_api_Sales : Nat := 134
abbrev pJ : Nat := 138
theorem A5 : NoR Tryz.prog pJ := ⟨_, Tryz.underlying138, rfl⟩
abbrev L4 : Nat := 141
theorem A9 : Sz Tryz.prog L4 2 := by unfold Sz; kernel_rfl
theorem G5 : IsR Tryz.prog L4 := ⟨_, Tryz.underlying141, rfl⟩
abbrev iI : Nat := 149
theorem pE : Sz Tryz.prog iI 1 := by unfold Sz; kernel_rfl
theorem t8 : NoR Tryz.prog iI := ⟨_, Tryz.underlying149, rfl⟩
abbrev iz3 : Nat := 150
theorem jq4 : Sz Tryz.prog iz3 1 := by unfold Sz; kernel_rfl
theorem rK : NoR Tryz.prog iz3 := ⟨_, Tryz.underlying150, rfl⟩
abbrev gj8 : Nat := 151
theorem Q1 : Tryz.prog.underlying gj8 = some (.slice 141) := Tryz.underlying151
abbrev hj8 : Nat := 154
theorem zC : Sz Tryz.prog hj8 2 := by unfold Sz; kernel_rfl
abbrev P_trade_list : Nat := 157
abbrev jj0 : Nat := 160
theorem aq6 : Tryz.prog.underlying jj0 = some (.array 24 5) := Tryz.underlying160
abbrev error : Nat := 168
abbrev mz8 : Nat := 174
abbrev nz2 : Nat := 176
abbrev Y5 : Nat := 179
theorem wI : Tryz.prog.underlying Y5 = some (.slice 205) := Tryz.underlying179
theorem uF : Sz Tryz.prog Y5 1 := by unfold Sz; kernel_rfl
theorem B7 : NoR Tryz.prog Y5 := ⟨_, Tryz.underlying179, rfl⟩
theorem vF : ElT Tryz.prog Y5 205 1 1 := ElT.of (z := (.int .u8 0)) Tryz.underlying179 (by kernel_rfl) rfl (by decide)
abbrev dP : Nat := 180
theorem gK : Tryz.prog.underlying dP = some (.slice 185) := Tryz.underlying180
theorem cR : Sz Tryz.prog dP 1 := by unfold Sz; kernel_rfl
theorem p7 : NoR Tryz.prog dP := ⟨_, Tryz.underlying180, rfl⟩
theorem cX : ElT Tryz.prog dP 185 1 16 := ElT.of (z := .nilIface) Tryz.underlying180 (by kernel_rfl) rfl (by decide)
abbrev uA : Nat := 182
abbrev chan_int : Nat := 183
abbrev bE : Nat := 185
theorem gq8 : Sz Tryz.prog bE 1 := by unfold Sz; kernel_rfl
theorem bx0 : NoR Tryz.prog bE := ⟨_, Tryz.underlying185, rfl⟩
abbrev A20_uint64 : Nat := 187
abbrev uint32 : Nat := 188
theorem kz9 : Tryz.prog.underlying uint32 = some (.int .u32) := Tryz.underlying188
abbrev A65_uint8 : Nat := 189
abbrev L6 : Nat := 195
theorem gG : Tryz.prog.underlying L6 = some (.array 256 4) := Tryz.underlying195
theorem P9 : Sz Tryz.prog L6 256 := by unfold Sz; kernel_rfl
theorem cG : IsR Tryz.prog L6 := ⟨_, Tryz.underlying195, rfl⟩
abbrev pj9 : Nat := 199
abbrev jz5 : Nat := 201
theorem gJ : Tryz.prog.underlying jz5 = some (.map 3 4) := Tryz.underlying201
abbrev jF : Nat := 205
theorem zB : Sz Tryz.prog jF 1 := by unfold Sz; kernel_rfl
theorem vI : NoR Tryz.prog jF := ⟨_, Tryz.underlying205, rfl⟩
abbrev tO : Nat := 208
abbrev tP : Nat := 210
abbrev aq7 : Nat := 212
abbrev strconv_Error : Nat := 220
abbrev pq0 : Nat := 223
abbrev A32_uint8 : Nat := 230
abbrev A64_uint8 : Nat := 231
abbrev qx7 : Nat := 237
abbrev A256_uint8 : Nat := 239
abbrev qx2 : Nat := 241
abbrev mz6 : Nat := 242
abbrev P_uint8 : Nat := 246
abbrev mz5 : Nat := 247
abbrev nz4 : Nat := 249
theorem M2 (p : Addr) (w : World) : (Instr.fieldAt 23 (.pointer (some p)) 0).run Tryz.prog w = .ok (.pointer (some (p.add 0))) w := by kernel_rfl
theorem M1 (p : Addr) (w : World) : (Instr.fieldAt 23 (.pointer (some p)) 1).run Tryz.prog w = .ok (.pointer (some (p.add 1))) w := by kernel_rfl
theorem M0 (p : Addr) (w : World) : (Instr.fieldAt 23 (.pointer (some p)) 2).run Tryz.prog w = .ok (.pointer (some (p.add 2))) w := by kernel_rfl
theorem L9 (p : Addr) (w : World) : (Instr.fieldAt 23 (.pointer (some p)) 3).run Tryz.prog w = .ok (.pointer (some (p.add 3))) w := by kernel_rfl
theorem Q7 (p : Addr) (w : World) : (Instr.fieldAt 23 (.pointer (some p)) 4).run Tryz.prog w = .ok (.pointer (some (p.add 4))) w := by kernel_rfl
theorem L8 (p : Addr) (w : World) : (Instr.fieldAt 23 (.pointer (some p)) 5).run Tryz.prog w = .ok (.pointer (some (p.add 5))) w := by kernel_rfl
theorem B9 (p : Addr) (w : World) : (Instr.fieldAt 27 (.pointer (some p)) 0).run Tryz.prog w = .ok (.pointer (some (p.add 0))) w := by kernel_rfl
theorem q9 (p : Addr) (w : World) : (Instr.fieldAt 27 (.pointer (some p)) 1).run Tryz.prog w = .ok (.pointer (some (p.add 6))) w := by kernel_rfl
theorem l4 (p : Addr) (w : World) : (Instr.fieldAt 27 (.pointer (some p)) 2).run Tryz.prog w = .ok (.pointer (some (p.add 7))) w := by kernel_rfl
theorem G4 (p : Addr) (w : World) : (Instr.fieldAt 52 (.pointer (some p)) 0).run Tryz.prog w = .ok (.pointer (some (p.add 0))) w := by kernel_rfl
theorem I8 (p : Addr) (w : World) : (Instr.fieldAt 52 (.pointer (some p)) 1).run Tryz.prog w = .ok (.pointer (some (p.add 1))) w := by kernel_rfl
theorem G3 (p : Addr) (w : World) : (Instr.fieldAt 52 (.pointer (some p)) 2).run Tryz.prog w = .ok (.pointer (some (p.add 2))) w := by kernel_rfl
theorem G2 (p : Addr) (w : World) : (Instr.fieldAt 61 (.pointer (some p)) 0).run Tryz.prog w = .ok (.pointer (some (p.add 0))) w := by kernel_rfl
theorem t3 (p : Addr) (w : World) : (Instr.fieldAt 61 (.pointer (some p)) 1).run Tryz.prog w = .ok (.pointer (some (p.add 1))) w := by kernel_rfl
theorem L3 (p : Addr) (w : World) : (Instr.fieldAt 72 (.pointer (some p)) 0).run Tryz.prog w = .ok (.pointer (some (p.add 0))) w := by kernel_rfl
theorem C7 (p : Addr) (w : World) : (Instr.fieldAt 72 (.pointer (some p)) 1).run Tryz.prog w = .ok (.pointer (some (p.add 1))) w := by kernel_rfl
theorem l8 (p : Addr) (w : World) : (Instr.fieldAt 72 (.pointer (some p)) 2).run Tryz.prog w = .ok (.pointer (some (p.add 2))) w := by kernel_rfl
theorem v7 (p : Addr) (w : World) : (Instr.fieldAt 96 (.pointer (some p)) 0).run Tryz.prog w = .ok (.pointer (some (p.add 0))) w := by kernel_rfl
theorem H1 (p : Addr) (w : World) : (Instr.fieldAt 96 (.pointer (some p)) 1).run Tryz.prog w = .ok (.pointer (some (p.add 1))) w := by kernel_rfl
theorem w5 (p : Addr) (w : World) : (Instr.fieldAt 96 (.pointer (some p)) 2).run Tryz.prog w = .ok (.pointer (some (p.add 2))) w := by kernel_rfl
theorem m9 (p : Addr) (w : World) : (Instr.fieldAt 100 (.pointer (some p)) 0).run Tryz.prog w = .ok (.pointer (some (p.add 0))) w := by kernel_rfl
theorem u0 (p : Addr) (w : World) : (Instr.fieldAt 100 (.pointer (some p)) 1).run Tryz.prog w = .ok (.pointer (some (p.add 3))) w := by kernel_rfl
theorem M9 (p : Addr) (w : World) : (Instr.fieldAt 100 (.pointer (some p)) 2).run Tryz.prog w = .ok (.pointer (some (p.add 4))) w := by kernel_rfl
theorem cC (p : Addr) (w : World) : (Instr.fieldAt 105 (.pointer (some p)) 0).run Tryz.prog w = .ok (.pointer (some (p.add 0))) w := by kernel_rfl
theorem cB (p : Addr) (w : World) : (Instr.fieldAt 105 (.pointer (some p)) 1).run Tryz.prog w = .ok (.pointer (some (p.add 1))) w := by kernel_rfl
theorem I1 (p : Addr) (w : World) : (Instr.fieldAt 114 (.pointer (some p)) 0).run Tryz.prog w = .ok (.pointer (some (p.add 0))) w := by kernel_rfl
theorem D9 (p : Addr) (w : World) : (Instr.fieldAt 114 (.pointer (some p)) 1).run Tryz.prog w = .ok (.pointer (some (p.add 1))) w := by kernel_rfl
theorem D8 (p : Addr) (w : World) : (Instr.fieldAt 114 (.pointer (some p)) 2).run Tryz.prog w = .ok (.pointer (some (p.add 2))) w := by kernel_rfl
theorem D7 (p : Addr) (w : World) : (Instr.fieldAt 114 (.pointer (some p)) 3).run Tryz.prog w = .ok (.pointer (some (p.add 3))) w := by kernel_rfl
theorem Q6 (p : Addr) (w : World) : (Instr.fieldAt 119 (.pointer (some p)) 0).run Tryz.prog w = .ok (.pointer (some (p.add 0))) w := by kernel_rfl
theorem J8 (p : Addr) (w : World) : (Instr.fieldAt 119 (.pointer (some p)) 1).run Tryz.prog w = .ok (.pointer (some (p.add 1))) w := by kernel_rfl
theorem nQ (p : Addr) (w : World) : (Instr.fieldAt 124 (.pointer (some p)) 0).run Tryz.prog w = .ok (.pointer (some (p.add 0))) w := by kernel_rfl
theorem aT (p : Addr) (w : World) : (Instr.fieldAt 126 (.pointer (some p)) 0).run Tryz.prog w = .ok (.pointer (some (p.add 0))) w := by kernel_rfl
theorem aS (p : Addr) (w : World) : (Instr.fieldAt 126 (.pointer (some p)) 1).run Tryz.prog w = .ok (.pointer (some (p.add 1))) w := by kernel_rfl
theorem rJ (p : Addr) (w : World) : (Instr.fieldAt 127 (.pointer (some p)) 0).run Tryz.prog w = .ok (.pointer (some (p.add 0))) w := by kernel_rfl
theorem aR (p : Addr) (w : World) : (Instr.fieldAt 127 (.pointer (some p)) 1).run Tryz.prog w = .ok (.pointer (some (p.add 1))) w := by kernel_rfl
theorem aV (p : Addr) (w : World) : (Instr.fieldAt 141 (.pointer (some p)) 0).run Tryz.prog w = .ok (.pointer (some (p.add 0))) w := by kernel_rfl
theorem aU (p : Addr) (w : World) : (Instr.fieldAt 141 (.pointer (some p)) 1).run Tryz.prog w = .ok (.pointer (some (p.add 1))) w := by kernel_rfl
theorem vD (p : Addr) (w : World) : (Instr.fieldAt 154 (.pointer (some p)) 0).run Tryz.prog w = .ok (.pointer (some (p.add 0))) w := by kernel_rfl
theorem vC (p : Addr) (w : World) : (Instr.fieldAt 154 (.pointer (some p)) 1).run Tryz.prog w = .ok (.pointer (some (p.add 1))) w := by kernel_rfl
theorem O3 (p : Addr) (w : World) : (Instr.fieldAt 182 (.pointer (some p)) 1).run Tryz.prog w = .ok (.pointer (some (p.add 2))) w := by kernel_rfl
theorem w6 (p : Addr) (w : World) : (Instr.fieldAt 182 (.pointer (some p)) 2).run Tryz.prog w = .ok (.pointer (some (p.add 3))) w := by kernel_rfl
theorem iG (p : Addr) (w : World) : (Instr.fieldAt 208 (.pointer (some p)) 0).run Tryz.prog w = .ok (.pointer (some (p.add 0))) w := by kernel_rfl
theorem iH (p : Addr) (w : World) : (Instr.fieldAt 210 (.pointer (some p)) 1).run Tryz.prog w = .ok (.pointer (some (p.add 1))) w := by kernel_rfl
theorem lF (p : Addr) (w : World) : (Instr.fieldAt 212 (.pointer (some p)) 0).run Tryz.prog w = .ok (.pointer (some (p.add 0))) w := by kernel_rfl
theorem kx6 (w : World) : (Instr.alloc 3 true (.tuple #[])).run Tryz.prog w = .ok (.pointer (some ⟨w.heap.size, 0, none⟩)) (w.alloc (.cells #[(.int .i64 0)] 3 (0, 0))) := by kernel_rfl
theorem rT (w : World) : (Instr.alloc 23 true (.tuple #[])).run Tryz.prog w = .ok (.pointer (some ⟨w.heap.size, 0, none⟩)) (w.alloc (.cells #[(.int .i64 0), (.int .i64 0), (.int .i64 0), (.int .i64 0), (.int .i64 0), (.int .i64 0)] 23 (0, 0))) := by kernel_rfl
theorem al_ints (w : World) : (Instr.alloc 24 true (.tuple #[])).run Tryz.prog w = .ok (.pointer (some ⟨w.heap.size, 0, none⟩)) (w.alloc (.cells #[(.slice none 0 0)] 24 (0, 0))) := by kernel_rfl
theorem H5 (w : World) : (Instr.alloc 27 true (.tuple #[])).run Tryz.prog w = .ok (.pointer (some ⟨w.heap.size, 0, none⟩)) (w.alloc (.cells #[(.int .i64 0), (.int .i64 0), (.int .i64 0), (.int .i64 0), (.int .i64 0), (.int .i64 0), (.slice none 0 0), (.slice none 0 0)] 27 (0, 0))) := by kernel_rfl
theorem U5 (w : World) : (Instr.alloc 52 true (.tuple #[])).run Tryz.prog w = .ok (.pointer (some ⟨w.heap.size, 0, none⟩)) (w.alloc (.cells #[(.int .i64 0), (.int .i64 0), (.int .i64 0)] 52 (0, 0))) := by kernel_rfl
theorem hx6 (w : World) : (Instr.alloc 61 true (.tuple #[])).run Tryz.prog w = .ok (.pointer (some ⟨w.heap.size, 0, none⟩)) (w.alloc (.cells #[(.slice none 0 0), (.slice none 0 0)] 61 (0, 0))) := by kernel_rfl
theorem nI (w : World) : (Instr.alloc 96 true (.tuple #[])).run Tryz.prog w = .ok (.pointer (some ⟨w.heap.size, 0, none⟩)) (w.alloc (.cells #[(.slice none 0 0), (.int .i64 0), (.int .i64 0)] 96 (0, 0))) := by kernel_rfl
theorem P4 (w : World) : (Instr.alloc 100 true (.tuple #[])).run Tryz.prog w = .ok (.pointer (some ⟨w.heap.size, 0, none⟩)) (w.alloc (.cells #[(.slice none 0 0), (.int .i64 0), (.int .i64 0), (.bool false), .nilFunc] 100 (0, 0))) := by kernel_rfl
theorem mx9 (w : World) : (Instr.alloc 105 true (.tuple #[])).run Tryz.prog w = .ok (.pointer (some ⟨w.heap.size, 0, none⟩)) (w.alloc (.cells #[(.int .i64 0), (.int .i64 0)] 105 (0, 0))) := by kernel_rfl
theorem mz0 (w : World) : (Instr.alloc 108 true (.tuple #[])).run Tryz.prog w = .ok (.pointer (some ⟨w.heap.size, 0, none⟩)) (w.alloc (.cells #[(.slice none 0 0)] 108 (0, 0))) := by kernel_rfl
theorem az9 (w : World) : (Instr.alloc 114 true (.tuple #[])).run Tryz.prog w = .ok (.pointer (some ⟨w.heap.size, 0, none⟩)) (w.alloc (.cells #[(.string ⟨#[]⟩), (.int .i64 0), (.int .i64 0), (.slice none 0 0)] 114 (0, 0))) := by kernel_rfl
theorem yS (w : World) : (Instr.alloc 119 true (.tuple #[])).run Tryz.prog w = .ok (.pointer (some ⟨w.heap.size, 0, none⟩)) (w.alloc (.cells #[(.string ⟨#[]⟩), (.int .i64 0)] 119 (0, 0))) := by kernel_rfl
theorem hx5 (w : World) : (Instr.alloc 124 true (.tuple #[])).run Tryz.prog w = .ok (.pointer (some ⟨w.heap.size, 0, none⟩)) (w.alloc (.cells #[(.pointer none)] 124 (0, 0))) := by kernel_rfl
theorem kx9 (w : World) : (Instr.alloc 126 true (.tuple #[])).run Tryz.prog w = .ok (.pointer (some ⟨w.heap.size, 0, none⟩)) (w.alloc (.cells #[(.pointer none), (.int .i64 0)] 126 (0, 0))) := by kernel_rfl
theorem kx8 (w : World) : (Instr.alloc 127 true (.tuple #[])).run Tryz.prog w = .ok (.pointer (some ⟨w.heap.size, 0, none⟩)) (w.alloc (.cells #[(.pointer none), (.int .i64 0)] 127 (0, 0))) := by kernel_rfl
theorem mx8 (w : World) : (Instr.alloc 130 true (.tuple #[])).run Tryz.prog w = .ok (.pointer (some ⟨w.heap.size, 0, none⟩)) (w.alloc (.cells #[] 130 (0, 0))) := by kernel_rfl
theorem bz1 (w : World) : (Instr.alloc 141 true (.tuple #[])).run Tryz.prog w = .ok (.pointer (some ⟨w.heap.size, 0, none⟩)) (w.alloc (.cells #[(.int .i64 0), .nilFunc] 141 (0, 0))) := by kernel_rfl
theorem pN (w : World) : (Instr.alloc 149 true (.tuple #[])).run Tryz.prog w = .ok (.pointer (some ⟨w.heap.size, 0, none⟩)) (w.alloc (.cells #[(.chan none)] 149 (0, 0))) := by kernel_rfl
theorem kx7 (w : World) : (Instr.alloc 150 true (.tuple #[])).run Tryz.prog w = .ok (.pointer (some ⟨w.heap.size, 0, none⟩)) (w.alloc (.cells #[(.chan none)] 150 (0, 0))) := by kernel_rfl
theorem aq5 (w : World) : (Instr.alloc 154 true (.tuple #[])).run Tryz.prog w = .ok (.pointer (some ⟨w.heap.size, 0, none⟩)) (w.alloc (.cells #[(.int .i64 0), (.int .i64 0)] 154 (0, 0))) := by kernel_rfl
theorem kz0 (w : World) : (Instr.alloc 160 true (.tuple #[])).run Tryz.prog w = .ok (.pointer (some ⟨w.heap.size, 0, none⟩)) (w.alloc (.cells #[(.int .u8 0), (.int .u8 0), (.int .u8 0), (.int .u8 0), (.int .u8 0), (.int .u8 0), (.int .u8 0), (.int .u8 0), (.int .u8 0), (.int .u8 0), (.int .u8 0), (.int .u8 0), (.int .u8 0), (.int .u8 0), (.int .u8 0), (.int .u8 0), (.int .u8 0), (.int .u8 0), (.int .u8 0), (.int .u8 0), (.int .u8 0), (.int .u8 0), (.int .u8 0), (.int .u8 0)] 160 (0, 0))) := by kernel_rfl
theorem dH (w : World) : (Instr.alloc 195 true (.tuple #[])).run Tryz.prog w = .ok (.pointer (some ⟨w.heap.size, 0, none⟩)) (w.alloc (.cells #[(.bool false), (.bool false), (.bool false), (.bool false), (.bool false), (.bool false), (.bool false), (.bool false), (.bool false), (.bool false), (.bool false), (.bool false), (.bool false), (.bool false), (.bool false), (.bool false), (.bool false), (.bool false), (.bool false), (.bool false), (.bool false), (.bool false), (.bool false), (.bool false), (.bool false), (.bool false), (.bool false), (.bool false), (.bool false), (.bool false), (.bool false), (.bool false), (.bool false), (.bool false), (.bool false), (.bool false), (.bool false), (.bool false), (.bool false), (.bool false), (.bool false), (.bool false), (.bool false), (.bool false), (.bool false), (.bool false), (.bool false), (.bool false), (.bool false), (.bool false), (.bool false), (.bool false), (.bool false), (.bool false), (.bool false), (.bool false), (.bool false), (.bool false), (.bool false), (.bool false), (.bool false), (.bool false), (.bool false), (.bool false), (.bool false), (.bool false), (.bool false), (.bool false), (.bool false), (.bool false), (.bool false), (.bool false), (.bool false), (.bool false), (.bool false), (.bool false), (.bool false), (.bool false), (.bool false), (.bool false), (.bool false), (.bool false), (.bool false), (.bool false), (.bool false), (.bool false), (.bool false), (.bool false), (.bool false), (.bool false), (.bool false), (.bool false), (.bool false), (.bool false), (.bool false), (.bool false), (.bool false), (.bool false), (.bool false), (.bool false), (.bool false), (.bool false), (.bool false), (.bool false), (.bool false), (.bool false), (.bool false), (.bool false), (.bool false), (.bool false), (.bool false), (.bool false), (.bool false), (.bool false), (.bool false), (.bool false), (.bool false), (.bool false), (.bool false), (.bool false), (.bool false), (.bool false), (.bool false), (.bool false), (.bool false), (.bool false), (.bool false), (.bool false), (.bool false), (.bool false), (.bool false), (.bool false), (.bool false), (.bool false), (.bool false), (.bool false), (.bool false), (.bool false), (.bool false), (.bool false), (.bool false), (.bool false), (.bool false), (.bool false), (.bool false), (.bool false), (.bool false), (.bool false), (.bool false), (.bool false), (.bool false), (.bool false), (.bool false), (.bool false), (.bool false), (.bool false), (.bool false), (.bool false), (.bool false), (.bool false), (.bool false), (.bool false), (.bool false), (.bool false), (.bool false), (.bool false), (.bool false), (.bool false), (.bool false), (.bool false), (.bool false), (.bool false), (.bool false), (.bool false), (.bool false), (.bool false), (.bool false), (.bool false), (.bool false), (.bool false), (.bool false), (.bool false), (.bool false), (.bool false), (.bool false), (.bool false), (.bool false), (.bool false), (.bool false), (.bool false), (.bool false), (.bool false), (.bool false), (.bool false), (.bool false), (.bool false), (.bool false), (.bool false), (.bool false), (.bool false), (.bool false), (.bool false), (.bool false), (.bool false), (.bool false), (.bool false), (.bool false), (.bool false), (.bool false), (.bool false), (.bool false), (.bool false), (.bool false), (.bool false), (.bool false), (.bool false), (.bool false), (.bool false), (.bool false), (.bool false), (.bool false), (.bool false), (.bool false), (.bool false), (.bool false), (.bool false), (.bool false), (.bool false), (.bool false), (.bool false), (.bool false), (.bool false), (.bool false), (.bool false), (.bool false), (.bool false), (.bool false), (.bool false), (.bool false), (.bool false), (.bool false), (.bool false), (.bool false), (.bool false), (.bool false), (.bool false), (.bool false), (.bool false), (.bool false), (.bool false), (.bool false), (.bool false), (.bool false), (.bool false), (.bool false), (.bool false)] 195 (0, 0))) := by kernel_rfl
theorem N3 (x1 : Int) (x2 : Int) (x3 : Int) (x4 : Int) (x5 : Int) (x6 : Int) (w : World) : (Instr.build 23 #[(0, (.int .i64 x1)), (1, (.int .i64 x2)), (2, (.int .i64 x3)), (3, (.int .i64 x4)), (4, (.int .i64 x5)), (5, (.int .i64 x6))]).run Tryz.prog w = .ok (.agg #[(.int .i64 x1), (.int .i64 x2), (.int .i64 x3), (.int .i64 x4), (.int .i64 x5), (.int .i64 x6)]) w := by kernel_rfl
theorem cE  (w : World) : (Instr.build 27 #[]).run Tryz.prog w = .ok (.agg #[(.int .i64 0), (.int .i64 0), (.int .i64 0), (.int .i64 0), (.int .i64 0), (.int .i64 0), (.slice none 0 0), (.slice none 0 0)]) w := by kernel_rfl
theorem gj5 (x1 : Int) (x2 : Int) (x3 : Int) (x4 : Int) (x5 : Int) (x6 : Int) (w : World) : (Instr.build 27 #[(0, (.agg #[(.int .i64 x1), (.int .i64 x2), (.int .i64 x3), (.int .i64 x4), (.int .i64 x5), (.int .i64 x6)]))]).run Tryz.prog w = .ok (.agg #[(.int .i64 x1), (.int .i64 x2), (.int .i64 x3), (.int .i64 x4), (.int .i64 x5), (.int .i64 x6), (.slice none 0 0), (.slice none 0 0)]) w := by kernel_rfl
theorem wB (x1 : Int) (x2 : Int) (x3 : Int) (x4 : Int) (x5 : Int) (x6 : Int) (x7 : Option Addr) (x8 : Nat) (x9 : Nat) (x10 : Option Addr) (x11 : Nat) (x12 : Nat) (w : World) : (Instr.build 27 #[(0, (.agg #[(.int .i64 x1), (.int .i64 x2), (.int .i64 x3), (.int .i64 x4), (.int .i64 x5), (.int .i64 x6)])), (1, (.slice x7 x8 x9)), (2, (.slice x10 x11 x12))]).run Tryz.prog w = .ok (.agg #[(.int .i64 x1), (.int .i64 x2), (.int .i64 x3), (.int .i64 x4), (.int .i64 x5), (.int .i64 x6), (.slice x7 x8 x9), (.slice x10 x11 x12)]) w := by kernel_rfl
theorem D3 (x1 : Int) (x2 : Int) (x3 : Int) (w : World) : (Instr.build 52 #[(0, (.int .i64 x1)), (1, (.int .i64 x2)), (2, (.int .i64 x3))]).run Tryz.prog w = .ok (.agg #[(.int .i64 x1), (.int .i64 x2), (.int .i64 x3)]) w := by kernel_rfl
theorem yO (x1 : Option Addr) (x2 : Nat) (x3 : Nat) (x4 : Option Addr) (x5 : Nat) (x6 : Nat) (w : World) : (Instr.build 61 #[(0, (.slice x1 x2 x3)), (1, (.slice x4 x5 x6))]).run Tryz.prog w = .ok (.agg #[(.slice x1 x2 x3), (.slice x4 x5 x6)]) w := by kernel_rfl
theorem kD (x1 : Option Addr) (x2 : Nat) (x3 : Nat) (x4 : Int) (w : World) : (Instr.build 72 #[(0, (.slice x1 x2 x3)), (2, (.int .u64 x4))]).run Tryz.prog w = .ok (.agg #[(.slice x1 x2 x3), (.int .i64 0), (.int .u64 x4)]) w := by kernel_rfl
theorem rS (x1 : Option Addr) (x2 : Nat) (x3 : Nat) (w : World) : (Instr.build 96 #[(0, (.slice x1 x2 x3))]).run Tryz.prog w = .ok (.agg #[(.slice x1 x2 x3), (.int .i64 0), (.int .i64 0)]) w := by kernel_rfl
theorem N2 (x1 : Fn) (x2 : Array Value) (x3 : Array Value) (w : World) : (Instr.build 100 #[(2, (.func x1 x2 x3))]).run Tryz.prog w = .ok (.agg #[(.slice none 0 0), (.int .i64 0), (.int .i64 0), (.bool false), (.func x1 x2 x3)]) w := by kernel_rfl
theorem dB (x1 : Int) (x2 : Int) (w : World) : (Instr.build 105 #[(0, (.int .i64 x1)), (1, (.int .i64 x2))]).run Tryz.prog w = .ok (.agg #[(.int .i64 x1), (.int .i64 x2)]) w := by kernel_rfl
theorem V3 (x1 : ByteArray) (x2 : Int) (x3 : Int) (w : World) : (Instr.build 114 #[(0, (.string x1)), (1, (.int .i64 x2)), (2, (.int .i64 x3))]).run Tryz.prog w = .ok (.agg #[(.string x1), (.int .i64 x2), (.int .i64 x3), (.slice none 0 0)]) w := by kernel_rfl
theorem tJ (x1 : ByteArray) (x2 : Int) (x3 : Int) (x4 : Option Addr) (x5 : Nat) (x6 : Nat) (w : World) : (Instr.build 114 #[(0, (.string x1)), (1, (.int .i64 x2)), (2, (.int .i64 x3)), (3, (.slice x4 x5 x6))]).run Tryz.prog w = .ok (.agg #[(.string x1), (.int .i64 x2), (.int .i64 x3), (.slice x4 x5 x6)]) w := by kernel_rfl
theorem yP (x1 : ByteArray) (x2 : Int) (x3 : Option Addr) (x4 : Nat) (x5 : Nat) (w : World) : (Instr.build 114 #[(0, (.string x1)), (2, (.int .i64 x2)), (3, (.slice x3 x4 x5))]).run Tryz.prog w = .ok (.agg #[(.string x1), (.int .i64 0), (.int .i64 x2), (.slice x3 x4 x5)]) w := by kernel_rfl
theorem gj6 (x1 : ByteArray) (w : World) : (Instr.build 119 #[(0, (.string x1))]).run Tryz.prog w = .ok (.agg #[(.string x1), (.int .i64 0)]) w := by kernel_rfl
theorem bX (x1 : ByteArray) (x2 : Int) (w : World) : (Instr.build 119 #[(0, (.string x1)), (1, (.int .i64 x2))]).run Tryz.prog w = .ok (.agg #[(.string x1), (.int .i64 x2)]) w := by kernel_rfl
theorem nH (x1 : Int) (x2 : Int) (x3 : Int) (x4 : Int) (w : World) : (Instr.build 122 #[(0, (.int .i64 x1)), (1, (.int .i64 x2)), (2, (.int .i64 x3)), (3, (.int .i64 x4))]).run Tryz.prog w = .ok (.agg #[(.int .i64 x1), (.int .i64 x2), (.int .i64 x3), (.int .i64 x4)]) w := by kernel_rfl
theorem bz0 (x1 : Option Addr) (w : World) : (Instr.build 124 #[(0, (.pointer x1))]).run Tryz.prog w = .ok (.agg #[(.pointer x1)]) w := by kernel_rfl
theorem aq4 (x1 : Option Addr) (x2 : Int) (w : World) : (Instr.build 126 #[(0, (.pointer x1)), (1, (.int .i64 x2))]).run Tryz.prog w = .ok (.agg #[(.pointer x1), (.int .i64 x2)]) w := by kernel_rfl
theorem aq3 (x1 : Option Addr) (x2 : Int) (w : World) : (Instr.build 127 #[(0, (.pointer x1)), (1, (.int .i64 x2))]).run Tryz.prog w = .ok (.agg #[(.pointer x1), (.int .i64 x2)]) w := by kernel_rfl
theorem I6  (w : World) : (Instr.build 130 #[]).run Tryz.prog w = .ok (.agg #[]) w := by kernel_rfl
theorem cN (x1 : Int) (x2 : Int) (w : World) : (Instr.build 154 #[(0, (.int .i64 x1)), (1, (.int .i64 x2))]).run Tryz.prog w = .ok (.agg #[(.int .i64 x1), (.int .i64 x2)]) w := by kernel_rfl
theorem bx9 (x1 : Option Addr) (x2 : Nat) (x3 : Nat) (x4 : Option Addr) (x5 : Nat) (x6 : Nat) (w : World) : (Instr.build 182 #[(0, (.agg #[(.slice x1 x2 x3), (.slice x4 x5 x6)]))]).run Tryz.prog w = .ok (.agg #[(.slice x1 x2 x3), (.slice x4 x5 x6), (.slice none 0 0), (.slice none 0 0)]) w := by kernel_rfl
theorem vZ (x1 : Int) (w : World) : (Instr.build 208 #[(0, (.int .i64 x1))]).run Tryz.prog w = .ok (.agg #[(.int .i64 x1)]) w := by kernel_rfl
theorem rR (x1 : Int) (x2 : Option Addr) (x3 : Nat) (x4 : Nat) (w : World) : (Instr.build 210 #[(0, (.int .i64 x1)), (1, (.slice x2 x3 x4))]).run Tryz.prog w = .ok (.agg #[(.int .i64 x1), (.slice x2 x3 x4)]) w := by kernel_rfl
theorem aq2 (x1 : Option Addr) (x2 : Nat) (x3 : Nat) (w : World) : (Instr.build 212 #[(0, (.slice x1 x2 x3))]).run Tryz.prog w = .ok (.agg #[(.slice x1 x2 x3)]) w := by kernel_rfl
theorem Z7 (x1 : Int) (w : World) : (Instr.buildSlice 24 1 #[(0, (.int .i64 x1))]).run Tryz.prog w = .ok (.slice (some ⟨w.heap.size, 0, none⟩) 1 1) (w.alloc (.cells #[(.int .i64 x1)] 3 (0, 0))) := by kernel_rfl
theorem zY (x1 : Int) (x2 : Int) (w : World) : (Instr.buildSlice 24 2 #[(0, (.int .i64 x1)), (1, (.int .i64 x2))]).run Tryz.prog w = .ok (.slice (some ⟨w.heap.size, 0, none⟩) 2 2) (w.alloc (.cells #[(.int .i64 x1), (.int .i64 x2)] 3 (0, 0))) := by kernel_rfl
theorem gE (x1 : Int) (x2 : Int) (x3 : Int) (w : World) : (Instr.buildSlice 24 3 #[(0, (.int .i64 x1)), (1, (.int .i64 x2)), (2, (.int .i64 x3))]).run Tryz.prog w = .ok (.slice (some ⟨w.heap.size, 0, none⟩) 3 3) (w.alloc (.cells #[(.int .i64 x1), (.int .i64 x2), (.int .i64 x3)] 3 (0, 0))) := by kernel_rfl
theorem iz7 (x1 : Int) (x2 : Int) (x3 : Int) (x4 : Int) (w : World) : (Instr.buildSlice 24 4 #[(0, (.int .i64 x1)), (1, (.int .i64 x2)), (2, (.int .i64 x3)), (3, (.int .i64 x4))]).run Tryz.prog w = .ok (.slice (some ⟨w.heap.size, 0, none⟩) 4 4) (w.alloc (.cells #[(.int .i64 x1), (.int .i64 x2), (.int .i64 x3), (.int .i64 x4)] 3 (0, 0))) := by kernel_rfl
theorem rz7 (x1 : Int) (x2 : Int) (x3 : Int) (x4 : Int) (x5 : Int) (x6 : Int) (w : World) : (Instr.buildSlice 24 6 #[(0, (.int .i64 x1)), (1, (.int .i64 x2)), (2, (.int .i64 x3)), (3, (.int .i64 x4)), (4, (.int .i64 x5)), (5, (.int .i64 x6))]).run Tryz.prog w = .ok (.slice (some ⟨w.heap.size, 0, none⟩) 6 6) (w.alloc (.cells #[(.int .i64 x1), (.int .i64 x2), (.int .i64 x3), (.int .i64 x4), (.int .i64 x5), (.int .i64 x6)] 3 (0, 0))) := by kernel_rfl
theorem K1 (x1 : Int) (x2 : Int) (x3 : Int) (w : World) : (Instr.buildSlice 25 1 #[(0, (.agg #[(.int .i64 x1), (.int .i64 x2), (.int .i64 x3)]))]).run Tryz.prog w = .ok (.slice (some ⟨w.heap.size, 0, none⟩) 1 1) (w.alloc (.cells #[(.int .i64 x1), (.int .i64 x2), (.int .i64 x3)] 52 (0, 0))) := by kernel_rfl
theorem yC (x1 : Int) (x2 : Int) (x3 : Int) (x4 : Int) (x5 : Int) (x6 : Int) (w : World) : (Instr.buildSlice 25 2 #[(0, (.agg #[(.int .i64 x1), (.int .i64 x2), (.int .i64 x3)])), (1, (.agg #[(.int .i64 x4), (.int .i64 x5), (.int .i64 x6)]))]).run Tryz.prog w = .ok (.slice (some ⟨w.heap.size, 0, none⟩) 2 2) (w.alloc (.cells #[(.int .i64 x1), (.int .i64 x2), (.int .i64 x3), (.int .i64 x4), (.int .i64 x5), (.int .i64 x6)] 52 (0, 0))) := by kernel_rfl
theorem yB (x1 : Int) (x2 : Int) (x3 : Int) (x4 : Int) (x5 : Int) (x6 : Int) (x7 : Int) (x8 : Int) (x9 : Int) (w : World) : (Instr.buildSlice 25 3 #[(0, (.agg #[(.int .i64 x1), (.int .i64 x2), (.int .i64 x3)])), (1, (.agg #[(.int .i64 x4), (.int .i64 x5), (.int .i64 x6)])), (2, (.agg #[(.int .i64 x7), (.int .i64 x8), (.int .i64 x9)]))]).run Tryz.prog w = .ok (.slice (some ⟨w.heap.size, 0, none⟩) 3 3) (w.alloc (.cells #[(.int .i64 x1), (.int .i64 x2), (.int .i64 x3), (.int .i64 x4), (.int .i64 x5), (.int .i64 x6), (.int .i64 x7), (.int .i64 x8), (.int .i64 x9)] 52 (0, 0))) := by kernel_rfl
theorem rz6 (x1 : ByteArray) (x2 : ByteArray) (w : World) : (Instr.buildSlice 34 2 #[(0, (.string x1)), (1, (.string x2))]).run Tryz.prog w = .ok (.slice (some ⟨w.heap.size, 0, none⟩) 2 2) (w.alloc (.cells #[(.string x1), (.string x2)] 9 (0, 0))) := by kernel_rfl
theorem iz6 (x1 : ByteArray) (x2 : ByteArray) (x3 : ByteArray) (w : World) : (Instr.buildSlice 34 3 #[(0, (.string x1)), (1, (.string x2)), (2, (.string x3))]).run Tryz.prog w = .ok (.slice (some ⟨w.heap.size, 0, none⟩) 3 3) (w.alloc (.cells #[(.string x1), (.string x2), (.string x3)] 9 (0, 0))) := by kernel_rfl
theorem rz5 (x1 : ByteArray) (x2 : ByteArray) (x3 : ByteArray) (x4 : ByteArray) (x5 : ByteArray) (x6 : ByteArray) (x7 : ByteArray) (x8 : ByteArray) (x9 : ByteArray) (w : World) : (Instr.buildSlice 34 9 #[(0, (.string x1)), (1, (.string x2)), (2, (.string x3)), (3, (.string x4)), (4, (.string x5)), (5, (.string x6)), (6, (.string x7)), (7, (.string x8)), (8, (.string x9))]).run Tryz.prog w = .ok (.slice (some ⟨w.heap.size, 0, none⟩) 9 9) (w.alloc (.cells #[(.string x1), (.string x2), (.string x3), (.string x4), (.string x5), (.string x6), (.string x7), (.string x8), (.string x9)] 9 (0, 0))) := by kernel_rfl
theorem bx2 (x1 : Int) (x2 : Int) (x3 : Int) (x4 : Int) (x5 : Int) (x6 : Int) (w : World) : (Instr.buildSlice 55 3 #[(0, (.agg #[(.int .i64 x1), (.int .i64 x2)])), (1, (.agg #[(.int .i64 x3), (.int .i64 x4)])), (2, (.agg #[(.int .i64 x5), (.int .i64 x6)]))]).run Tryz.prog w = .ok (.slice (some ⟨w.heap.size, 0, none⟩) 3 3) (w.alloc (.cells #[(.int .i64 x1), (.int .i64 x2), (.int .i64 x3), (.int .i64 x4), (.int .i64 x5), (.int .i64 x6)] 105 (0, 0))) := by kernel_rfl
theorem aj0 (x1 : ByteArray) (x2 : Int) (x3 : ByteArray) (x4 : Int) (x5 : ByteArray) (x6 : Int) (x7 : ByteArray) (x8 : Int) (w : World) : (Instr.buildSlice 58 4 #[(0, (.agg #[(.string x1), (.int .i64 x2)])), (1, (.agg #[(.string x3), (.int .i64 x4)])), (2, (.agg #[(.string x5), (.int .i64 x6)])), (3, (.agg #[(.string x7), (.int .i64 x8)]))]).run Tryz.prog w = .ok (.slice (some ⟨w.heap.size, 0, none⟩) 4 4) (w.alloc (.cells #[(.string x1), (.int .i64 x2), (.string x3), (.int .i64 x4), (.string x5), (.int .i64 x6), (.string x7), (.int .i64 x8)] 119 (0, 0))) := by kernel_rfl
theorem bx1 (x1 : ByteArray) (x2 : Int) (x3 : Int) (x4 : Option Addr) (x5 : Nat) (x6 : Nat) (x7 : ByteArray) (x8 : Int) (x9 : Int) (x10 : Option Addr) (x11 : Nat) (x12 : Nat) (x13 : ByteArray) (x14 : Int) (x15 : Int) (x16 : Option Addr) (x17 : Nat) (x18 : Nat) (x19 : ByteArray) (x20 : Int) (x21 : Int) (x22 : Option Addr) (x23 : Nat) (x24 : Nat) (x25 : ByteArray) (x26 : Int) (x27 : Int) (x28 : Option Addr) (x29 : Nat) (x30 : Nat) (x31 : ByteArray) (x32 : Int) (x33 : Int) (x34 : Option Addr) (x35 : Nat) (x36 : Nat) (w : World) : (Instr.buildSlice 59 6 #[(0, (.agg #[(.string x1), (.int .i64 x2), (.int .i64 x3), (.slice x4 x5 x6)])), (1, (.agg #[(.string x7), (.int .i64 x8), (.int .i64 x9), (.slice x10 x11 x12)])), (2, (.agg #[(.string x13), (.int .i64 x14), (.int .i64 x15), (.slice x16 x17 x18)])), (3, (.agg #[(.string x19), (.int .i64 x20), (.int .i64 x21), (.slice x22 x23 x24)])), (4, (.agg #[(.string x25), (.int .i64 x26), (.int .i64 x27), (.slice x28 x29 x30)])), (5, (.agg #[(.string x31), (.int .i64 x32), (.int .i64 x33), (.slice x34 x35 x36)]))]).run Tryz.prog w = .ok (.slice (some ⟨w.heap.size, 0, none⟩) 6 6) (w.alloc (.cells #[(.string x1), (.int .i64 x2), (.int .i64 x3), (.slice x4 x5 x6), (.string x7), (.int .i64 x8), (.int .i64 x9), (.slice x10 x11 x12), (.string x13), (.int .i64 x14), (.int .i64 x15), (.slice x16 x17 x18), (.string x19), (.int .i64 x20), (.int .i64 x21), (.slice x22 x23 x24), (.string x25), (.int .i64 x26), (.int .i64 x27), (.slice x28 x29 x30), (.string x31), (.int .i64 x32), (.int .i64 x33), (.slice x34 x35 x36)] 114 (0, 0))) := by kernel_rfl
theorem zZ (x1 : Option Addr) (x2 : Nat) (x3 : Nat) (x4 : Int) (x5 : Int) (w : World) : (Instr.buildSlice 101 1 #[(0, (.agg #[(.slice x1 x2 x3), (.int .i64 x4), (.int .i64 x5)]))]).run Tryz.prog w = .ok (.slice (some ⟨w.heap.size, 0, none⟩) 1 1) (w.alloc (.cells #[(.slice x1 x2 x3), (.int .i64 x4), (.int .i64 x5)] 96 (0, 0))) := by kernel_rfl
theorem mq7 (x1 : Bool) (w : World) : (Instr.buildSlice 116 1 #[(0, (.bool x1))]).run Tryz.prog w = .ok (.slice (some ⟨w.heap.size, 0, none⟩) 1 1) (w.alloc (.cells #[(.bool x1)] 4 (0, 0))) := by kernel_rfl
theorem rL (x1 : Int) (w : World) : (Instr.buildSlice 179 1 #[(0, (.int .u8 x1))]).run Tryz.prog w = .ok (.slice (some ⟨w.heap.size, 0, none⟩) 1 1) (w.alloc (.cells #[(.int .u8 x1)] 205 (0, 0))) := by kernel_rfl
theorem aX (x1 : Nat) (x2 : Value) (w : World) : (Instr.buildSlice 180 1 #[(0, (.iface x1 x2))]).run Tryz.prog w = .ok (.slice (some ⟨w.heap.size, 0, none⟩) 1 1) (w.alloc (.cells #[(.iface x1 x2)] 185 (0, 0))) := by kernel_rfl
theorem bq6 (a0 b0 : Int) (a1 b1 : Int) (a2 b2 : Int) (a3 b3 : Int) (a4 b4 : Int) (a5 b5 : Int) (w : World) : (Op.equalIn 10000 23 (.agg #[.int .i64 a0, .int .i64 a1, .int .i64 a2, .int .i64 a3, .int .i64 a4, .int .i64 a5]) (.agg #[.int .i64 b0, .int .i64 b1, .int .i64 b2, .int .i64 b3, .int .i64 b4, .int .i64 b5])).run Tryz.prog w = .ok (decide ((a0, a1, a2, a3, a4, a5) = (b0, b1, b2, b3, b4, b5))) w := by
  rw [run_equalIn_agg w 9999 23 _ _ (by simp only [Program.fieldsOf, Tryz.underlying23]) (by kernel_rfl)]; simp only [Program.fieldsOf, Tryz.underlying23]
  by_cases h0 : a0 = b0
  rotate_left
  · simp [Op.eqFields, part, isAgg, run_equalIn_int _ 9998 3 .i64 .i64 _ _ Tryz.underlying3, run_underlying Tryz.underlying3, h0]
  by_cases h1 : a1 = b1
  rotate_left
  · simp [Op.eqFields, part, isAgg, run_equalIn_int _ 9998 3 .i64 .i64 _ _ Tryz.underlying3, run_underlying Tryz.underlying3, h0, h1]
  by_cases h2 : a2 = b2
  rotate_left
  · simp [Op.eqFields, part, isAgg, run_equalIn_int _ 9998 3 .i64 .i64 _ _ Tryz.underlying3, run_underlying Tryz.underlying3, h0, h1, h2]
  by_cases h3 : a3 = b3
  rotate_left
  · simp [Op.eqFields, part, isAgg, run_equalIn_int _ 9998 3 .i64 .i64 _ _ Tryz.underlying3, run_underlying Tryz.underlying3, h0, h1, h2, h3]
  by_cases h4 : a4 = b4
  rotate_left
  · simp [Op.eqFields, part, isAgg, run_equalIn_int _ 9998 3 .i64 .i64 _ _ Tryz.underlying3, run_underlying Tryz.underlying3, h0, h1, h2, h3, h4]
  by_cases h5 : a5 = b5
  rotate_left
  · simp [Op.eqFields, part, isAgg, run_equalIn_int _ 9998 3 .i64 .i64 _ _ Tryz.underlying3, run_underlying Tryz.underlying3, h0, h1, h2, h3, h4, h5]
  simp [Op.eqFields, part, isAgg, run_equalIn_int _ 9998 3 .i64 .i64 _ _ Tryz.underlying3, run_underlying Tryz.underlying3, h0, h1, h2, h3, h4, h5]
theorem bj9 (a0 b0 : Int) (a1 b1 : Int) (a2 b2 : Int) (a3 b3 : Int) (a4 b4 : Int) (a5 b5 : Int) (w : World) : (binOp .neq 23 (.agg #[.int .i64 a0, .int .i64 a1, .int .i64 a2, .int .i64 a3, .int .i64 a4, .int .i64 a5]) (.agg #[.int .i64 b0, .int .i64 b1, .int .i64 b2, .int .i64 b3, .int .i64 b4, .int .i64 b5])).run Tryz.prog w = .ok (.bool (decide (¬ (a0, a1, a2, a3, a4, a5) = (b0, b1, b2, b3, b4, b5)))) w := by rw [run_neq_struct, bq6, decide_not]; rfl
theorem bq7 (op : BinOp) (x y : Operand) (xs ys : Array Value) (w : World) : (eqGuard op 23 x y (.agg xs) (.agg ys)).run Tryz.prog w = .ok () w := run_eqGuard_agg w op 23 x y xs ys (by kernel_rfl)
theorem dx6 (a0 b0 : Int) (a1 b1 : Int) (a2 b2 : Int) (w : World) : (Op.equalIn 10000 52 (.agg #[.int .i64 a0, .int .i64 a1, .int .i64 a2]) (.agg #[.int .i64 b0, .int .i64 b1, .int .i64 b2])).run Tryz.prog w = .ok (decide ((a0, a1, a2) = (b0, b1, b2))) w := by
  rw [run_equalIn_agg w 9999 52 _ _ (by simp only [Program.fieldsOf, Tryz.underlying52]) (by kernel_rfl)]; simp only [Program.fieldsOf, Tryz.underlying52]
  by_cases h0 : a0 = b0 <;> by_cases h1 : a1 = b1 <;> by_cases h2 : a2 = b2 <;>
    simp [Op.eqFields, part, isAgg, run_equalIn_int _ 9998 3 .i64 .i64 _ _ Tryz.underlying3, run_underlying Tryz.underlying3, h0, h1, h2]
theorem cz6 (a0 b0 : Int) (a1 b1 : Int) (a2 b2 : Int) (w : World) : (binOp .neq 52 (.agg #[.int .i64 a0, .int .i64 a1, .int .i64 a2]) (.agg #[.int .i64 b0, .int .i64 b1, .int .i64 b2])).run Tryz.prog w = .ok (.bool (decide (¬ (a0, a1, a2) = (b0, b1, b2)))) w := by rw [run_neq_struct, dx6, decide_not]; rfl
theorem dx7 (op : BinOp) (x y : Operand) (xs ys : Array Value) (w : World) : (eqGuard op 52 x y (.agg xs) (.agg ys)).run Tryz.prog w = .ok () w := run_eqGuard_agg w op 52 x y xs ys (by kernel_rfl)
end T
end Go.Proofs.YtcdopfjiadifhaaGreatDoor
end
section
namespace Go.W
universe u
open Go Go.RowKit
class El (α : Type) extends Inhabited α where
  cells : α → List Value
  sz : Nat
  len : ∀ a, (cells a).length = sz
  one : ∀ a, ∀ u ∈ cells a, u.oneCell' = true
def rows {α : Type} [El α] (l : List α) : List Value := l.flatMap El.cells
instance : El Str where
  default := []
  cells s := [str s]
  sz := 1
  len _ := rfl
  one a u h := by simp at h; subst h; rfl
instance : El Int where
  default := 0
  cells n := [int n]
  sz := 1
  len _ := rfl
  one a u h := by simp at h; subst h; rfl
instance : El UInt8 where
  default := 0
  cells n := [.int .u8 n.toNat]
  sz := 1
  len _ := rfl
  one a u h := by simp at h; subst h; rfl
abbrev Mk := Int × Int × Str
instance : El Mk where
  default := (0, 0, [])
  cells m := [int m.1, int m.2.1, str m.2.2]
  sz := 3
  len _ := rfl
  one a u h := by simp at h; rcases h with h | h | h <;> subst h <;> rfl
structure Sl (α : Type) where
  a : Option Addr
  c : Nat
  l : List α
instance {α : Type} : El (Sl α) where
  default := ⟨none, 0, []⟩
  cells p := [.slice p.a p.l.length p.c]
  sz := 1
  len _ := rfl
  one a u h := by simp at h; subst h; rfl
section
variable {α : Type} [El α]
theorem qL : rows ([] : List α) = [] := rfl
theorem O1 (a : α) (l : List α) : rows (a :: l) = El.cells a ++ rows l := rfl
theorem D2 (l l' : List α) : rows (l ++ l') = rows l ++ rows l' := by simp [rows]
theorem V8 (l : List α) : (rows l).length = l.length * El.sz α := by
  induction l with
  | nil => simp [qL]
  | cons a l ih => rw [O1, List.length_append, El.len, ih, List.length_cons, Nat.add_mul, Nat.one_mul, Nat.add_comm]
theorem K5 (l : List α) : ∀ u ∈ rows l, u.oneCell' = true := by
  intro u hu; obtain ⟨a, _, h⟩ := List.mem_flatMap.1 hu; exact El.one a u h
theorem zH (l : List α) (k : Nat) : (rows l).drop (k * El.sz α) = rows (l.drop k) := by
  induction l generalizing k with
  | nil => simp [qL]
  | cons a l ih =>
    cases k with
    | zero => simp
    | succ k =>
      rw [O1, List.drop_succ_cons, ← ih, List.drop_append, El.len, List.drop_eq_nil_of_le (by rw [El.len, Nat.succ_mul]; omega), List.nil_append]
      congr 1
      rw [Nat.succ_mul]
      omega
theorem rows_get' (l : List α) (i j : Nat) (hi : i < l.length) (hj : j < El.sz α) : (rows l)[i * El.sz α + j]? = (El.cells (l.getD i default))[j]? := by
  have h := congrArg (·[j]?) (zH l i); simp only [List.getElem?_drop] at h; rw [h, List.drop_eq_getElem_cons hi, O1, List.getElem?_append_left (by rw [El.len]; exact hj)]
  simp [List.getD_eq_getElem?_getD, hi]
theorem rows_get {l : List α} {i j : Nat} {v : Value} (hi : i < l.length) (hv : (El.cells (l.getD i default))[j]? = some v) : (rows l)[i * El.sz α + j]? = some v := by
  have hj : j < El.sz α := by
    have := (List.getElem?_eq_some_iff.1 hv).1
    rwa [El.len] at this
  rw [rows_get' l i j hi hj, hv]
theorem c9 {l : List α} {i : Nat} {v : Value} (hi : i < l.length) (hv : (El.cells (l.getD i default))[0]? = some v) : (rows l)[i * El.sz α]? = some v := rows_get (j := 0) hi hv
theorem t9 {l : List α} {i : Nat} (hi : i < l.length) : ∀ j u, (El.cells (l.getD i default))[j]? = some u → (rows l)[i * El.sz α + j]? = some u := fun j u h => rows_get hi h
theorem rows_lt {l : List α} {i : Nat} (hi : i < l.length) (h0 : 0 < El.sz α) : i * El.sz α < (rows l).length := by
  rw [V8]; exact Nat.mul_lt_mul_of_pos_right hi h0
theorem iq0 (l : List α) (k : Nat) : (rows l).take (k * El.sz α) = rows (l.take k) := by
  induction l generalizing k with
  | nil => simp [qL]
  | cons a l ih =>
    cases k with
    | zero => simp [qL]
    | succ k =>
      rw [O1, List.take_succ_cons, O1, ← ih, Nat.succ_mul, List.take_append, El.len, List.take_of_length_le (by rw [El.len]; omega)]
      congr 2
      omega
end
theorem X5 {c : Cx} {Q : Exit → Act → World → Prop} {fr : Fr} {hp : Hp} {L : List Fact} {ops : Array Oper} {rest : List Oper} {d : Tmp} {ty : TypeId} {pos : String} {af : Array Edge}
    {s t : TypeId} {x : Operand} {ks k k' : IntKind} {a : Int} (z : Int) (hd : Nat.blt d c.n = true) (hs : c.P.underlying s = some (.int ks)) (ht : c.P.underlying t = some (.int k')) (hx : ev fr x = some (.int k a)) (hz : k'.wrap a = z)
    (kk : HL c ops Q rest ((d, .int k' z) :: fr) hp L) : HL c ops Q (⟨some d, .convert s t x, ty, pos, af, none⟩ :: rest) fr hp L :=
  C0 _ rfl rfl hd (fun a' w ha _ => by
    simp only [execOp, ha.ev hx, Sem.run_bind, convert, run_underlying hs, run_underlying ht, Result.andThen_ok]; rw [← hz]
    cases ks <;> rfl) kk
theorem r_rem {c : Cx} {Q : Exit → Act → World → Prop} {fr : Fr} {hp : Hp} {L : List Fact} {ops : Array Oper} {rest : List Oper} {d : Tmp} {ty : TypeId} {pos : String} {af : Array Edge}
    {t yt : TypeId} {x y : Operand} {kd : IntKind} {a b : Int} (hd : Nat.blt d c.n = true) (hx : ev fr x = some (.int kd a)) (hy : ev fr y = some (.int kd b)) (hb : b ≠ 0)
    (kk : HL c ops Q rest ((d, .int kd (a.tmod b)) :: fr) hp L) : HL c ops Q (⟨some d, .binOp .rem t x y yt, ty, pos, af, none⟩ :: rest) fr hp L :=
  m7 _ hd hx hy (fun _ => rfl) (fun w => by
    have : (binOp .rem t (.int kd a) (.int kd b)) = Op.intDiv .rem kd a b := by cases kd <;> rfl
    rw [this]
    simp [Op.intDiv, hb]) kk
theorem r_quo {c : Cx} {Q : Exit → Act → World → Prop} {fr : Fr} {hp : Hp} {L : List Fact} {ops : Array Oper} {rest : List Oper} {d : Tmp} {ty : TypeId} {pos : String} {af : Array Edge}
    {t yt : TypeId} {x y : Operand} {kd : IntKind} {a b : Int} (z : Int) (hd : Nat.blt d c.n = true) (hx : ev fr x = some (.int kd a)) (hy : ev fr y = some (.int kd b)) (hb : b ≠ 0) (hz : kd.wrap (a.tdiv b) = z)
    (kk : HL c ops Q rest ((d, .int kd z) :: fr) hp L) : HL c ops Q (⟨some d, .binOp .quo t x y yt, ty, pos, af, none⟩ :: rest) fr hp L :=
  m7 _ hd hx hy (fun _ => rfl) (fun w => by
    have : (binOp .quo t (.int kd a) (.int kd b)) = Op.intDiv .quo kd a b := by cases kd <;> rfl
    rw [this]
    simp [Op.intDiv, hb, hz]) kk
theorem wrapU (n : Int) : 0 ≤ IntKind.u64.wrap n ∧ IntKind.u64.wrap n < 18446744073709551616 := by
  simp only [IntKind.wrap, IntKind.bits, IntKind.signed]
  simp
  omega
theorem v6 {α : Type} [El α] {c : Cx} {Q : Exit → Act → World → Prop} {fr : Fr} {hp : Hp} {L : List Fact} {ops : Array Oper} {rest : List Oper} {d : Tmp} {ty : TypeId} {pos : String} {af : Array Edge}
    {t e : TypeId} {x i : Operand} {A : Option Addr} {n cp : Nat} {kd : IntKind} {z : Int} (l : List α) (j : Nat) (hd : Nat.blt d c.n = true) (ht : c.P.underlying t = some (.slice e)) (hz : Sz c.P e (El.sz α))
    (hx : ev fr x = some (.slice A n cp)) (hi : ev fr i = some (.int kd z)) (hjz : z = (j : Int)) (hr : Row A (rows l) ∈ L) (hn : n = l.length) (hj : j < l.length) (h0 : 0 < El.sz α)
    (k : HL c ops Q rest ((d, .pointer (some ((adr A).add (j * El.sz α)))) :: fr) hp L) : HL c ops Q (⟨some d, .indexAddr t x i, ty, pos, af, none⟩ :: rest) fr hp L :=
  lx1 j hd ht hz hx hi hjz (by omega) hr (rows_lt hj h0) k
def Rows2 {α : Type} [El α] (A : Option Addr) (ps : List (Sl α)) : Fact where
  P w := (Row A (rows ps)).P w ∧ ∀ p ∈ ps, (Row p.a (rows p.l)).P w
  fp k := (Row A (rows ps)).fp k ∨ ∃ p ∈ ps, (Row p.a (rows p.l)).fp k
  st w w' h hP := ⟨(Row A (rows ps)).st w w' (fun k hk => h k (.inl hk)) hP.1, fun p hp => (Row p.a (rows p.l)).st w w' (fun k hk => h k (.inr ⟨p, hp, hk⟩)) (hP.2 p hp)⟩
  lt w hP k hk := by
    rcases hk with hk | ⟨p, hp, hk⟩
    · exact (Row A (rows ps)).lt w hP.1 k hk
    exact (Row p.a (rows p.l)).lt w (hP.2 p hp) k hk
section
variable {c : Cx} {Q : Exit → Act → World → Prop} {fr : Fr} {hp : Hp} {L : List Fact} {ops : Array Oper} {rest : List Oper}
variable {d : Tmp} {ty : TypeId} {pos : String} {af : Array Edge}
theorem p_t {x y z : Operand} {v : Value} {b : Bool} (hd : Nat.blt d c.n = true) (hx : ev fr x = some (.bool b)) (hb : b = true) (hy : ev fr y = some v) (k : HL c ops Q rest ((d, v) :: fr) hp L) : HL c ops Q (⟨some d, .pick x y z, ty, pos, af, none⟩ :: rest) fr hp L := by
  subst hb; exact sz7 hd hx hy k
theorem p_f {x y z : Operand} {v : Value} {b : Bool} (hd : Nat.blt d c.n = true) (hx : ev fr x = some (.bool b)) (hb : b = false) (hz : ev fr z = some v) (k : HL c ops Q rest ((d, v) :: fr) hp L) : HL c ops Q (⟨some d, .pick x y z, ty, pos, af, none⟩ :: rest) fr hp L := by
  subst hb; exact sz8 hd hx hz k
theorem c_t {x : Operand} {b : Bool} {thn els : Code} (hx : ev fr x = some (.bool b)) (hb : b = true) (ht : HC c thn Q fr hp L) : HC c (.cond x thn els) Q fr hp L := by subst hb; exact rq7 hx ht
theorem c_f {x : Operand} {b : Bool} {thn els : Code} (hx : ev fr x = some (.bool b)) (hb : b = false) (hf : HC c els Q fr hp L) : HC c (.cond x thn els) Q fr hp L := by subst hb; exact rq8 hx hf
theorem bt1 {b : Bool} (h : (b == true) = true) : b = true := by cases b <;> simp_all
theorem bt2 {b : Bool} (h : (b == false) = false) : b = true := by cases b <;> simp_all
theorem bf1 {b : Bool} (h : (b == false) = true) : b = false := by cases b <;> simp_all
theorem bf2 {b : Bool} (h : (b == true) = false) : b = false := by cases b <;> simp_all
theorem gn {b : Bool} (h : (b == true) = true) : (b == false) = false := by cases b <;> simp_all
theorem P0 {o : Oper} {j : Nat} {want : Bool} {t : Tmp} {v : Value} (ho : o.dst = some d) (hg : o.guard = some (j, want)) (hd : Nat.blt d c.n = true) (hj : (ops[j]?).bind (·.dst) = some t) (hv : lk fr t = some v) (hu : v = undef)
    (k : HL c ops Q rest ((d, undef) :: fr) hp L) : HL c ops Q (o :: rest) fr hp L := by
  subst hu; intro a w ha hw; refine kz3 ?_ ?_
  · rw [Region.wanted, hg]
    show (yielded ops a.tmps j == some want) = false; have h1 := ha.at_ t _ hv
    have : yielded ops a.tmps j = none := by
      unfold yielded; rw [hj]; simp only [Option.bind_some]
      cases h2 : a.tmps[t]? with
      | none => rfl
      | some u => simp [Array.getD_eq_getD_getElem?, h2, undef] at h1; rw [h1]
    rw [this]; rfl
  rw [ho]; exact k _ _ (ha.put (by simpa using hd) _) hw
theorem u6 {dst : Option Tmp} {op : Op} {j : Nat} {want b : Bool} {t : Tmp} (hj : (ops[j]?).bind (·.dst) = some t) (hv : lk fr t = some (.bool b))
    (hy : (b == want) = true → HL c ops Q (⟨dst, op, ty, pos, af, some (j, want)⟩ :: rest) fr hp L) (hn : (b == want) = false → HL c ops Q (⟨dst, op, ty, pos, af, some (j, want)⟩ :: rest) fr hp L) :
    HL c ops Q (⟨dst, op, ty, pos, af, some (j, want)⟩ :: rest) fr hp L := by
  cases hb : (b == want)
  · exact hn hb
  exact hy hb
theorem mj5 {DP : Nat → List PanicEntry → Prop} {O0 : Hp} {K : Env → Prop} {r : List Oper} {E : Env} {want b : Bool} {t : Tmp} (hv : lkE E t = some (.ex (.bool b))) (hy : (b == want) = true → HB DP c ops fr O0 hp L K r E) (hn : (b == want) = false → HB DP c ops fr O0 hp L K r E) : HB DP c ops fr O0 hp L K r E := by
  cases hb : (b == want)
  · exact hn hb
  exact hy hb
theorem m3 {x : Operand} {p : Prop} [Decidable p] {thn els : Code} (hx : ev fr x = some (.bool (decide p))) (ht : p → HC c thn Q fr hp L) (hf : ¬ p → HC c els Q fr hp L) : HC c (.cond x thn els) Q fr hp L :=
  j7 hx (fun h => ht (of_decide_eq_true h)) (fun h => hf (of_decide_eq_false h))
end
theorem m0 {α : Type u} {a  : α} {l : List α} : a ∈ a :: l := .head _
theorem m1 {α : Type u} {a x0 : α} {l : List α} : a ∈ x0 :: a :: l := .tail _ (.head _)
theorem m2 {α : Type u} {a x0 x1 : α} {l : List α} : a ∈ x0 :: x1 :: a :: l := .tail _ (.tail _ (.head _))
theorem perm3 {α : Type} (a b c : α) (l : List α) : (a :: b :: c :: l).Perm (c :: a :: b :: l) := by
  have h1 : (a :: b :: c :: l).Perm (a :: c :: b :: l) := (List.Perm.swap c b l).cons a; exact h1.trans (.swap c a _)
theorem perm2 {α : Type} (a b : α) (l : List α) : (a :: b :: l).Perm (b :: a :: l) := .swap b a l
theorem perm4 {α : Type} (a b c d : α) (l : List α) : (a :: b :: c :: d :: l).Perm (d :: a :: b :: c :: l) := ((perm3 b c d l).cons a).trans (.swap d a _)
end Go.W
end
section
namespace Go.W
open Go Go.RowKit
section
variable {c : Cx} {Q : Exit → Act → World → Prop} {fr : Fr} {hp : Hp} {L : List Fact} {ops : Array Oper} {rest : List Oper}
variable {d : Tmp} {ty : TypeId} {pos : String} {af : Array Edge}
theorem tj6 {g : Nat} {cs : Array Value} {t : TypeId} {fz : Nat × Nat} {w : World} (h : w.heap[g]? = some (.cells cs t fz)) {us : List Value} (hu : us <+: cs.toList) : (Row (c8 g) us).P w := fun j u hj => by
  refine ⟨_, rfl, ?_⟩; rw [X8, Nat.zero_add]; obtain ⟨r, hr⟩ := hu
  have : cs[j]? = some u := by
    rw [← Array.getElem?_toList, ← hr, List.getElem?_append]; have hlt : j < us.length := (List.getElem?_eq_some_iff.1 hj).1; rw [if_pos hlt, hj]
  simp [World.cell?, h, this]
theorem uJ (s : Str) : rows s = s.map (fun b => Value.int .u8 b.toNat) := by
  induction s with
  | nil => rfl
  | cons a s ih => rw [O1, ih]; rfl
theorem r_bytes {s t e : TypeId} {x : Operand} {l : Str} (hd : Nat.blt d c.n = true) (hs : c.P.underlying s = some .string) (ht : c.P.underlying t = some (.slice e)) (he : c.P.underlying e = some (.int .u8)) (hx : ev fr x = some (str l))
    (k : ∀ g cap, HL c ops Q rest ((d, .slice (c8 g) l.length cap) :: fr) hp (Row (c8 g) (rows l) :: L)) : HL c ops Q (⟨some d, .convert s t x, ty, pos, af, none⟩ :: rest) fr hp L :=
  mR rfl rfl hd fun a w ha hw => by
    have h1 := run_bytes_of_string (P := c.P) w s t e (.mk l.toArray) hs ht he; refine ⟨_, (w.drew.alloc (.cells (bytesRow (.mk l.toArray) (grownCap w (ByteArray.mk l.toArray).size 0 e)) e ((bytesRow (.mk l.toArray) (grownCap w (ByteArray.mk l.toArray).size 0 e)).size, (bytesRow (.mk l.toArray) (grownCap w (ByteArray.mk l.toArray).size 0 e)).size + 1))), hp, _, ?_, ?_, k w.heap.size (grownCap w (ByteArray.mk l.toArray).size 0 e)⟩
    · simp only [execOp, ha.ev hx, str, Sem.run_bind, h1, Result.andThen_ok, Sem.run_pure]
      rfl
    have h2 := (hw.quiet (dx5 w)).alloc (.cells (bytesRow (.mk l.toArray) (grownCap w (ByteArray.mk l.toArray).size 0 e)) e ((bytesRow (.mk l.toArray) (grownCap w (ByteArray.mk l.toArray).size 0 e)).size, (bytesRow (.mk l.toArray) (grownCap w (ByteArray.mk l.toArray).size 0 e)).size + 1)); refine WI.letgo h2 (tj6 (h2.own (w.heap.size, _) (.head _)) ?_) (fun k hk => by obtain ⟨ad, e', h3, _⟩ := hk; cases e'; exact h3.symm); rw [uJ, bytesRow]
    simp
theorem B5 {t e : TypeId} {x : Operand} {g : Nat} {cs : Array Value} {fz : Nat × Nat} {n : Nat} (hd : Nat.blt d c.n = true) (ht' : IsR c.P t) (hz' : Sz c.P t n) (hx : ev fr x = some (.pointer (c8 g))) (h : (g, Obj.cells cs e fz) ∈ hp) (hn : cs.size = n)
    (k : HL c ops Q rest ((d, .agg cs) :: fr) hp L) : HL c ops Q (⟨some d, .load t x, ty, pos, af, none⟩ :: rest) fr hp L :=
  u7 (cs := cs.toList) hd ht' hz' hx (by simpa using hn) (bS h (fun i u hu => by simpa using hu)) k
end
end Go.W
end
