/- Texts put together (merge.py). -/
import Derived.Test.YtgnnakibcjonbaaGreatDoorM8
import Derived.Test.YtgnnakibcjonbaaGreatDoorM7
import Derived.Test.YtgnnakibcjonbaaGreatDoorM11
import Derived.Handed
import Derived.SizedLaws
import Derived.LaidLaws
import Derived.Carry
/- The functions that the evaluator may run. -/
namespace Go.Proofs.YtgnnakibcjonbaaGreatDoor.VE
open Go Go.RowKit
set_option maxRecDepth 100000
noncomputable def fe3 : FE Tryz.prog := FE.of 3 Tryz.f3 (plT pl3) true Tryz.func3 rfl (by kernel_rfl) (by kernel_rfl)
noncomputable def fe4 : FE Tryz.prog := FE.of 4 Tryz.f4 (plT []) true Tryz.func4 rfl (by kernel_rfl) (by kernel_rfl)
noncomputable def fe5 : FE Tryz.prog := FE.of 5 Tryz.f5 (plT pl5) true Tryz.func5 rfl (by kernel_rfl) (by kernel_rfl)
noncomputable def fe6 : FE Tryz.prog := FE.of 6 Tryz.f6 (plT pl6) true Tryz.func6 rfl (by kernel_rfl) (by kernel_rfl)
noncomputable def fe7 : FE Tryz.prog := FE.of 7 Tryz.f7 (plT pl7) true Tryz.func7 rfl (by kernel_rfl) (by kernel_rfl)
noncomputable def fe8 : FE Tryz.prog := FE.of 8 Tryz.f8 (plT pl8) true Tryz.func8 rfl (by kernel_rfl) (by kernel_rfl)
noncomputable def fe9 : FE Tryz.prog := FE.of 9 Tryz.f9 (plT pl9) true Tryz.func9 rfl (by kernel_rfl) (by kernel_rfl)
noncomputable def fe10 : FE Tryz.prog := FE.of 10 Tryz.f10 (plT []) true Tryz.func10 rfl (by kernel_rfl) (by kernel_rfl)
noncomputable def fe11 : FE Tryz.prog := FE.of 11 Tryz.f11 (plT []) true Tryz.func11 rfl (by kernel_rfl) (by kernel_rfl)
noncomputable def fe12 : FE Tryz.prog := FE.of 12 Tryz.f12 (plT []) true Tryz.func12 rfl (by kernel_rfl) (by kernel_rfl)
noncomputable def fe13 : FE Tryz.prog := FE.of 13 Tryz.f13 (plT []) true Tryz.func13 rfl (by kernel_rfl) (by kernel_rfl)
noncomputable def fe14 : FE Tryz.prog := FE.of 14 Tryz.f14 (plT []) true Tryz.func14 rfl (by kernel_rfl) (by kernel_rfl)
noncomputable def fe15 : FE Tryz.prog := FE.of 15 Tryz.f15 (plT []) true Tryz.func15 rfl (by kernel_rfl) (by kernel_rfl)
noncomputable def fe16 : FE Tryz.prog := FE.of 16 Tryz.f16 (plT pl16) true Tryz.func16 rfl (by kernel_rfl) (by kernel_rfl)
noncomputable def fe17 : FE Tryz.prog := FE.of 17 Tryz.f17 (plT []) true Tryz.func17 rfl (by kernel_rfl) (by kernel_rfl)
noncomputable def fe18 : FE Tryz.prog := FE.of 18 Tryz.f18 (plT []) true Tryz.func18 rfl (by kernel_rfl) (by kernel_rfl)
noncomputable def fe19 : FE Tryz.prog := FE.of 19 Tryz.f19 (plT []) true Tryz.func19 rfl (by kernel_rfl) (by kernel_rfl)
noncomputable def fe20 : FE Tryz.prog := FE.of 20 Tryz.f20 (plT []) true Tryz.func20 rfl (by kernel_rfl) (by kernel_rfl)
noncomputable def fe21 : FE Tryz.prog := FE.of 21 Tryz.f21 (plT pl21) true Tryz.func21 rfl (by kernel_rfl) (by kernel_rfl)
noncomputable def fe22 : FE Tryz.prog := FE.of 22 Tryz.f22 (plT []) true Tryz.func22 rfl (by kernel_rfl) (by kernel_rfl)
noncomputable def fe23 : FE Tryz.prog := FE.of 23 Tryz.f23 (plT []) true Tryz.func23 rfl (by kernel_rfl) (by kernel_rfl)
noncomputable def fe24 : FE Tryz.prog := FE.of 24 Tryz.f24 (plT []) true Tryz.func24 rfl (by kernel_rfl) (by kernel_rfl)
noncomputable def fe25 : FE Tryz.prog := FE.of 25 Tryz.f25 (plT []) true Tryz.func25 rfl (by kernel_rfl) (by kernel_rfl)
noncomputable def fe26 : FE Tryz.prog := FE.of 26 Tryz.f26 (plT []) true Tryz.func26 rfl (by kernel_rfl) (by kernel_rfl)
noncomputable def fe27 : FE Tryz.prog := FE.of 27 Tryz.f27 (plT []) true Tryz.func27 rfl (by kernel_rfl) (by kernel_rfl)
noncomputable def fe28 : FE Tryz.prog := FE.of 28 Tryz.f28 (plT pl28) true Tryz.func28 rfl (by kernel_rfl) (by kernel_rfl)
noncomputable def fe29 : FE Tryz.prog := FE.of 29 Tryz.f29 (plT []) true Tryz.func29 rfl (by kernel_rfl) (by kernel_rfl)
noncomputable def fe30 : FE Tryz.prog := FE.of 30 Tryz.f30 (plT pl30) true Tryz.func30 rfl (by kernel_rfl) (by kernel_rfl)
noncomputable def fe31 : FE Tryz.prog := FE.of 31 Tryz.f31 (plT []) true Tryz.func31 rfl (by kernel_rfl) (by kernel_rfl)
noncomputable def fe32 : FE Tryz.prog := FE.of 32 Tryz.f32 (plT pl32) true Tryz.func32 rfl (by kernel_rfl) (by kernel_rfl)
noncomputable def fe33 : FE Tryz.prog := FE.of 33 Tryz.f33 (plT []) true Tryz.func33 rfl (by kernel_rfl) (by kernel_rfl)
noncomputable def fe34 : FE Tryz.prog := FE.of 34 Tryz.f34 (plT []) true Tryz.func34 rfl (by kernel_rfl) (by kernel_rfl)
noncomputable def fe35 : FE Tryz.prog := FE.of 35 Tryz.f35 (plT []) true Tryz.func35 rfl (by kernel_rfl) (by kernel_rfl)
noncomputable def fe36 : FE Tryz.prog := FE.of 36 Tryz.f36 (plT []) true Tryz.func36 rfl (by kernel_rfl) (by kernel_rfl)
noncomputable def fe37 : FE Tryz.prog := FE.of 37 Tryz.f37 (plT pl37) false Tryz.func37 rfl (by kernel_rfl) (by kernel_rfl)
noncomputable def fe38 : FE Tryz.prog := FE.of 38 Tryz.f38 (plT pl38) true Tryz.func38 rfl (by kernel_rfl) (by kernel_rfl)
noncomputable def fe39 : FE Tryz.prog := FE.of 39 Tryz.f39 (plT []) true Tryz.func39 rfl (by kernel_rfl) (by kernel_rfl)
noncomputable def fe40 : FE Tryz.prog := FE.of 40 Tryz.f40 (plT []) true Tryz.func40 rfl (by kernel_rfl) (by kernel_rfl)
noncomputable def fe41 : FE Tryz.prog := FE.of 41 Tryz.f41 (plT pl41) true Tryz.func41 rfl (by kernel_rfl) (by kernel_rfl)
noncomputable def fe42 : FE Tryz.prog := FE.of 42 Tryz.f42 (plT []) true Tryz.func42 rfl (by kernel_rfl) (by kernel_rfl)
noncomputable def fe43 : FE Tryz.prog := FE.of 43 Tryz.f43 (plT []) true Tryz.func43 rfl (by kernel_rfl) (by kernel_rfl)
noncomputable def fe44 : FE Tryz.prog := FE.of 44 Tryz.f44 (plT []) false Tryz.func44 rfl (by kernel_rfl) (by kernel_rfl)
noncomputable def fe45 : FE Tryz.prog := FE.of 45 Tryz.f45 (plT pl45) true Tryz.func45 rfl (by kernel_rfl) (by kernel_rfl)
noncomputable def fe46 : FE Tryz.prog := FE.of 46 Tryz.f46 (plT pl46) true Tryz.func46 rfl (by kernel_rfl) (by kernel_rfl)
noncomputable def fe47 : FE Tryz.prog := FE.of 47 Tryz.f47 (plT []) true Tryz.func47 rfl (by kernel_rfl) (by kernel_rfl)
noncomputable def fe48 : FE Tryz.prog := FE.of 48 Tryz.f48 (plT pl48) false Tryz.func48 rfl (by kernel_rfl) (by kernel_rfl)
noncomputable def fe49 : FE Tryz.prog := FE.of 49 Tryz.f49 (plT pl49) true Tryz.func49 rfl (by kernel_rfl) (by kernel_rfl)
noncomputable def fe50 : FE Tryz.prog := FE.of 50 Tryz.f50 (plT []) true Tryz.func50 rfl (by kernel_rfl) (by kernel_rfl)
noncomputable def fe51 : FE Tryz.prog := FE.of 51 Tryz.f51 (plT []) true Tryz.func51 rfl (by kernel_rfl) (by kernel_rfl)
noncomputable def fe52 : FE Tryz.prog := FE.of 52 Tryz.f52 (plT pl52) false Tryz.func52 rfl (by kernel_rfl) (by kernel_rfl)
noncomputable def fe53 : FE Tryz.prog := FE.of 53 Tryz.f53 (plT []) true Tryz.func53 rfl (by kernel_rfl) (by kernel_rfl)
noncomputable def fe54 : FE Tryz.prog := FE.of 54 Tryz.f54 (plT []) true Tryz.func54 rfl (by kernel_rfl) (by kernel_rfl)
noncomputable def fe55 : FE Tryz.prog := FE.of 55 Tryz.f55 (plT []) true Tryz.func55 rfl (by kernel_rfl) (by kernel_rfl)
noncomputable def fe56 : FE Tryz.prog := FE.of 56 Tryz.f56 (plT []) true Tryz.func56 rfl (by kernel_rfl) (by kernel_rfl)
noncomputable def fe57 : FE Tryz.prog := FE.of 57 Tryz.f57 (plT []) true Tryz.func57 rfl (by kernel_rfl) (by kernel_rfl)
noncomputable def fe58 : FE Tryz.prog := FE.of 58 Tryz.f58 (plT pl58) false Tryz.func58 rfl (by kernel_rfl) (by kernel_rfl)
noncomputable def fe59 : FE Tryz.prog := FE.of 59 Tryz.f59 (plT []) true Tryz.func59 rfl (by kernel_rfl) (by kernel_rfl)
noncomputable def fe60 : FE Tryz.prog := FE.of 60 Tryz.f60 (plT []) true Tryz.func60 rfl (by kernel_rfl) (by kernel_rfl)
noncomputable def fe61 : FE Tryz.prog := FE.of 61 Tryz.f61 (plT pl61) true Tryz.func61 rfl (by kernel_rfl) (by kernel_rfl)
noncomputable def fe62 : FE Tryz.prog := FE.of 62 Tryz.f62 (plT []) true Tryz.func62 rfl (by kernel_rfl) (by kernel_rfl)
noncomputable def fe63 : FE Tryz.prog := FE.of 63 Tryz.f63 (plT []) true Tryz.func63 rfl (by kernel_rfl) (by kernel_rfl)
noncomputable def fe64 : FE Tryz.prog := FE.of 64 Tryz.f64 (plT []) true Tryz.func64 rfl (by kernel_rfl) (by kernel_rfl)
noncomputable def fe65 : FE Tryz.prog := FE.of 65 Tryz.f65 (plT []) true Tryz.func65 rfl (by kernel_rfl) (by kernel_rfl)
noncomputable def fe66 : FE Tryz.prog := FE.of 66 Tryz.f66 (plT []) true Tryz.func66 rfl (by kernel_rfl) (by kernel_rfl)
noncomputable def fe67 : FE Tryz.prog := FE.of 67 Tryz.f67 (plT pl67) true Tryz.func67 rfl (by kernel_rfl) (by kernel_rfl)
noncomputable def fe68 : FE Tryz.prog := FE.of 68 Tryz.f68 (plT pl68) true Tryz.func68 rfl (by kernel_rfl) (by kernel_rfl)
noncomputable def fe69 : FE Tryz.prog := FE.of 69 Tryz.f69 (plT []) true Tryz.func69 rfl (by kernel_rfl) (by kernel_rfl)
noncomputable def fe70 : FE Tryz.prog := FE.of 70 Tryz.f70 (plT pl70) false Tryz.func70 rfl (by kernel_rfl) (by kernel_rfl)
noncomputable def fe71 : FE Tryz.prog := FE.of 71 Tryz.f71 (plT []) true Tryz.func71 rfl (by kernel_rfl) (by kernel_rfl)
noncomputable def fe72 : FE Tryz.prog := FE.of 72 Tryz.f72 (plT pl72) true Tryz.func72 rfl (by kernel_rfl) (by kernel_rfl)
noncomputable def fe73 : FE Tryz.prog := FE.of 73 Tryz.f73 (plT pl73) true Tryz.func73 rfl (by kernel_rfl) (by kernel_rfl)
noncomputable def fe74 : FE Tryz.prog := FE.of 74 Tryz.f74 (plT pl74) true Tryz.func74 rfl (by kernel_rfl) (by kernel_rfl)
noncomputable def fe75 : FE Tryz.prog := FE.of 75 Tryz.f75 (plT pl75) true Tryz.func75 rfl (by kernel_rfl) (by kernel_rfl)
noncomputable def fe76 : FE Tryz.prog := FE.of 76 Tryz.f76 (plT []) true Tryz.func76 rfl (by kernel_rfl) (by kernel_rfl)
noncomputable def fe77 : FE Tryz.prog := FE.of 77 Tryz.f77 (plT []) true Tryz.func77 rfl (by kernel_rfl) (by kernel_rfl)
noncomputable def fe78 : FE Tryz.prog := FE.of 78 Tryz.f78 (plT []) true Tryz.func78 rfl (by kernel_rfl) (by kernel_rfl)
noncomputable def fe79 : FE Tryz.prog := FE.of 79 Tryz.f79 (plT []) true Tryz.func79 rfl (by kernel_rfl) (by kernel_rfl)
noncomputable def fe80 : FE Tryz.prog := FE.of 80 Tryz.f80 (plT []) true Tryz.func80 rfl (by kernel_rfl) (by kernel_rfl)
noncomputable def fe81 : FE Tryz.prog := FE.of 81 Tryz.f81 (plT pl81) false Tryz.func81 rfl (by kernel_rfl) (by kernel_rfl)
noncomputable def fe82 : FE Tryz.prog := FE.of 82 Tryz.f82 (plT []) false Tryz.func82 rfl (by kernel_rfl) (by kernel_rfl)
noncomputable def fe83 : FE Tryz.prog := FE.of 83 Tryz.f83 (plT []) true Tryz.func83 rfl (by kernel_rfl) (by kernel_rfl)
noncomputable def fe84 : FE Tryz.prog := FE.of 84 Tryz.f84 (plT []) true Tryz.func84 rfl (by kernel_rfl) (by kernel_rfl)
noncomputable def fe85 : FE Tryz.prog := FE.of 85 Tryz.f85 (plT []) false Tryz.func85 rfl (by kernel_rfl) (by kernel_rfl)
noncomputable def fe86 : FE Tryz.prog := FE.of 86 Tryz.f86 (plT []) true Tryz.func86 rfl (by kernel_rfl) (by kernel_rfl)
noncomputable def fe87 : FE Tryz.prog := FE.of 87 Tryz.f87 (plT []) true Tryz.func87 rfl (by kernel_rfl) (by kernel_rfl)
noncomputable def fe88 : FE Tryz.prog := FE.of 88 Tryz.f88 (plT []) true Tryz.func88 rfl (by kernel_rfl) (by kernel_rfl)
noncomputable def fe89 : FE Tryz.prog := FE.of 89 Tryz.f89 (plT []) true Tryz.func89 rfl (by kernel_rfl) (by kernel_rfl)
noncomputable def fe90 : FE Tryz.prog := FE.of 90 Tryz.f90 (plT []) true Tryz.func90 rfl (by kernel_rfl) (by kernel_rfl)
noncomputable def fe91 : FE Tryz.prog := FE.of 91 Tryz.f91 (plT pl91) true Tryz.func91 rfl (by kernel_rfl) (by kernel_rfl)
noncomputable def fe92 : FE Tryz.prog := FE.of 92 Tryz.f92 (plT pl92) true Tryz.func92 rfl (by kernel_rfl) (by kernel_rfl)
noncomputable def fe93 : FE Tryz.prog := FE.of 93 Tryz.f93 (plT pl93) true Tryz.func93 rfl (by kernel_rfl) (by kernel_rfl)
noncomputable def fe94 : FE Tryz.prog := FE.of 94 Tryz.f94 (plT []) true Tryz.func94 rfl (by kernel_rfl) (by kernel_rfl)
noncomputable def fe95 : FE Tryz.prog := FE.of 95 Tryz.f95 (plT pl95) true Tryz.func95 rfl (by kernel_rfl) (by kernel_rfl)
noncomputable def fe96 : FE Tryz.prog := FE.of 96 Tryz.f96 (plT []) true Tryz.func96 rfl (by kernel_rfl) (by kernel_rfl)
noncomputable def fe97 : FE Tryz.prog := FE.of 97 Tryz.f97 (plT []) true Tryz.func97 rfl (by kernel_rfl) (by kernel_rfl)
noncomputable def fe98 : FE Tryz.prog := FE.of 98 Tryz.f98 (plT pl98) false Tryz.func98 rfl (by kernel_rfl) (by kernel_rfl)
noncomputable def fe99 : FE Tryz.prog := FE.of 99 Tryz.f99 (plT []) true Tryz.func99 rfl (by kernel_rfl) (by kernel_rfl)
noncomputable def fe100 : FE Tryz.prog := FE.of 100 Tryz.f100 (plT pl100) false Tryz.func100 rfl (by kernel_rfl) (by kernel_rfl)
noncomputable def fe101 : FE Tryz.prog := FE.of 101 Tryz.f101 (plT pl101) false Tryz.func101 rfl (by kernel_rfl) (by kernel_rfl)
noncomputable def fe102 : FE Tryz.prog := FE.of 102 Tryz.f102 (plT []) true Tryz.func102 rfl (by kernel_rfl) (by kernel_rfl)
noncomputable def fe103 : FE Tryz.prog := FE.of 103 Tryz.f103 (plT []) true Tryz.func103 rfl (by kernel_rfl) (by kernel_rfl)
noncomputable def fe104 : FE Tryz.prog := FE.of 104 Tryz.f104 (plT pl104) false Tryz.func104 rfl (by kernel_rfl) (by kernel_rfl)
noncomputable def fe105 : FE Tryz.prog := FE.of 105 Tryz.f105 (plT []) true Tryz.func105 rfl (by kernel_rfl) (by kernel_rfl)
noncomputable def fe106 : FE Tryz.prog := FE.of 106 Tryz.f106 (plT []) false Tryz.func106 rfl (by kernel_rfl) (by kernel_rfl)
noncomputable def fe107 : FE Tryz.prog := FE.of 107 Tryz.f107 (plT []) true Tryz.func107 rfl (by kernel_rfl) (by kernel_rfl)
noncomputable def fe108 : FE Tryz.prog := FE.of 108 Tryz.f108 (plT []) true Tryz.func108 rfl (by kernel_rfl) (by kernel_rfl)
noncomputable def fe109 : FE Tryz.prog := FE.of 109 Tryz.f109 (plT []) true Tryz.func109 rfl (by kernel_rfl) (by kernel_rfl)
noncomputable def fe110 : FE Tryz.prog := FE.of 110 Tryz.f110 (plT []) true Tryz.func110 rfl (by kernel_rfl) (by kernel_rfl)
noncomputable def fe111 : FE Tryz.prog := FE.of 111 Tryz.f111 (plT []) true Tryz.func111 rfl (by kernel_rfl) (by kernel_rfl)
noncomputable def fe112 : FE Tryz.prog := FE.of 112 Tryz.f112 (plT []) true Tryz.func112 rfl (by kernel_rfl) (by kernel_rfl)
noncomputable def fe113 : FE Tryz.prog := FE.of 113 Tryz.f113 (plT []) true Tryz.func113 rfl (by kernel_rfl) (by kernel_rfl)
noncomputable def fe114 : FE Tryz.prog := FE.of 114 Tryz.f114 (plT []) true Tryz.func114 rfl (by kernel_rfl) (by kernel_rfl)
noncomputable def fe115 : FE Tryz.prog := FE.of 115 Tryz.f115 (plT []) true Tryz.func115 rfl (by kernel_rfl) (by kernel_rfl)
noncomputable def fe116 : FE Tryz.prog := FE.of 116 Tryz.f116 (plT []) true Tryz.func116 rfl (by kernel_rfl) (by kernel_rfl)
noncomputable def fe117 : FE Tryz.prog := FE.of 117 Tryz.f117 (plT []) true Tryz.func117 rfl (by kernel_rfl) (by kernel_rfl)
noncomputable def fe118 : FE Tryz.prog := FE.of 118 Tryz.f118 (plT []) true Tryz.func118 rfl (by kernel_rfl) (by kernel_rfl)
noncomputable def fe119 : FE Tryz.prog := FE.of 119 Tryz.f119 (plT pl119) true Tryz.func119 rfl (by kernel_rfl) (by kernel_rfl)
noncomputable def fe120 : FE Tryz.prog := FE.of 120 Tryz.f120 (plT []) true Tryz.func120 rfl (by kernel_rfl) (by kernel_rfl)
noncomputable def fe121 : FE Tryz.prog := FE.of 121 Tryz.f121 (plT []) true Tryz.func121 rfl (by kernel_rfl) (by kernel_rfl)
noncomputable def fe122 : FE Tryz.prog := FE.of 122 Tryz.f122 (plT []) true Tryz.func122 rfl (by kernel_rfl) (by kernel_rfl)
noncomputable def fe123 : FE Tryz.prog := FE.of 123 Tryz.f123 (plT []) true Tryz.func123 rfl (by kernel_rfl) (by kernel_rfl)
noncomputable def fe124 : FE Tryz.prog := FE.of 124 Tryz.f124 (plT []) true Tryz.func124 rfl (by kernel_rfl) (by kernel_rfl)
noncomputable def fe125 : FE Tryz.prog := FE.of 125 Tryz.f125 (plT pl125) true Tryz.func125 rfl (by kernel_rfl) (by kernel_rfl)
noncomputable def fe126 : FE Tryz.prog := FE.of 126 Tryz.f126 (plT []) false Tryz.func126 rfl (by kernel_rfl) (by kernel_rfl)
noncomputable def fe127 : FE Tryz.prog := FE.of 127 Tryz.f127 (plT []) true Tryz.func127 rfl (by kernel_rfl) (by kernel_rfl)
noncomputable def fe128 : FE Tryz.prog := FE.of 128 Tryz.f128 (plT []) false Tryz.func128 rfl (by kernel_rfl) (by kernel_rfl)
noncomputable def fe129 : FE Tryz.prog := FE.of 129 Tryz.f129 (plT []) true Tryz.func129 rfl (by kernel_rfl) (by kernel_rfl)
noncomputable def fe130 : FE Tryz.prog := FE.of 130 Tryz.f130 (plT []) true Tryz.func130 rfl (by kernel_rfl) (by kernel_rfl)
noncomputable def fe131 : FE Tryz.prog := FE.of 131 Tryz.f131 (plT pl131) true Tryz.func131 rfl (by kernel_rfl) (by kernel_rfl)
noncomputable def fe132 : FE Tryz.prog := FE.of 132 Tryz.f132 (plT []) true Tryz.func132 rfl (by kernel_rfl) (by kernel_rfl)
noncomputable def fe133 : FE Tryz.prog := FE.of 133 Tryz.f133 (plT pl133) false Tryz.func133 rfl (by kernel_rfl) (by kernel_rfl)
noncomputable def fe134 : FE Tryz.prog := FE.of 134 Tryz.f134 (plT []) false Tryz.func134 rfl (by kernel_rfl) (by kernel_rfl)
noncomputable def fe135 : FE Tryz.prog := FE.of 135 Tryz.f135 (plT []) true Tryz.func135 rfl (by kernel_rfl) (by kernel_rfl)
noncomputable def fe136 : FE Tryz.prog := FE.of 136 Tryz.f136 (plT pl136) true Tryz.func136 rfl (by kernel_rfl) (by kernel_rfl)
noncomputable def fe137 : FE Tryz.prog := FE.of 137 Tryz.f137 (plT []) true Tryz.func137 rfl (by kernel_rfl) (by kernel_rfl)
noncomputable def fe138 : FE Tryz.prog := FE.of 138 Tryz.f138 (plT pl138) true Tryz.func138 rfl (by kernel_rfl) (by kernel_rfl)
noncomputable def fe139 : FE Tryz.prog := FE.of 139 Tryz.f139 (plT []) true Tryz.func139 rfl (by kernel_rfl) (by kernel_rfl)
noncomputable def fe140 : FE Tryz.prog := FE.of 140 Tryz.f140 (plT pl140) true Tryz.func140 rfl (by kernel_rfl) (by kernel_rfl)
noncomputable def fe141 : FE Tryz.prog := FE.of 141 Tryz.f141 (plT []) true Tryz.func141 rfl (by kernel_rfl) (by kernel_rfl)
noncomputable def fe142 : FE Tryz.prog := FE.of 142 Tryz.f142 (plT pl142) true Tryz.func142 rfl (by kernel_rfl) (by kernel_rfl)
noncomputable def fe143 : FE Tryz.prog := FE.of 143 Tryz.f143 (plT pl143) true Tryz.func143 rfl (by kernel_rfl) (by kernel_rfl)
noncomputable def fe144 : FE Tryz.prog := FE.of 144 Tryz.f144 (plT []) true Tryz.func144 rfl (by kernel_rfl) (by kernel_rfl)
noncomputable def fe145 : FE Tryz.prog := FE.of 145 Tryz.f145 (plT []) true Tryz.func145 rfl (by kernel_rfl) (by kernel_rfl)
noncomputable def fe146 : FE Tryz.prog := FE.of 146 Tryz.f146 (plT []) true Tryz.func146 rfl (by kernel_rfl) (by kernel_rfl)
noncomputable def fe147 : FE Tryz.prog := FE.of 147 Tryz.f147 (plT pl147) true Tryz.func147 rfl (by kernel_rfl) (by kernel_rfl)
noncomputable def fe148 : FE Tryz.prog := FE.of 148 Tryz.f148 (plT pl148) true Tryz.func148 rfl (by kernel_rfl) (by kernel_rfl)
noncomputable def fe149 : FE Tryz.prog := FE.of 149 Tryz.f149 (plT []) true Tryz.func149 rfl (by kernel_rfl) (by kernel_rfl)
noncomputable def fe150 : FE Tryz.prog := FE.of 150 Tryz.f150 (plT []) true Tryz.func150 rfl (by kernel_rfl) (by kernel_rfl)
noncomputable def fe151 : FE Tryz.prog := FE.of 151 Tryz.f151 (plT []) true Tryz.func151 rfl (by kernel_rfl) (by kernel_rfl)
noncomputable def fe152 : FE Tryz.prog := FE.of 152 Tryz.f152 (plT []) false Tryz.func152 rfl (by kernel_rfl) (by kernel_rfl)
noncomputable def fe153 : FE Tryz.prog := FE.of 153 Tryz.f153 (plT pl153) false Tryz.func153 rfl (by kernel_rfl) (by kernel_rfl)
noncomputable def fe154 : FE Tryz.prog := FE.of 154 Tryz.f154 (plT []) true Tryz.func154 rfl (by kernel_rfl) (by kernel_rfl)
noncomputable def fe155 : FE Tryz.prog := FE.of 155 Tryz.f155 (plT pl155) false Tryz.func155 rfl (by kernel_rfl) (by kernel_rfl)
noncomputable def fe156 : FE Tryz.prog := FE.of 156 Tryz.f156 (plT pl156) true Tryz.func156 rfl (by kernel_rfl) (by kernel_rfl)
noncomputable def fe157 : FE Tryz.prog := FE.of 157 Tryz.f157 (plT []) true Tryz.func157 rfl (by kernel_rfl) (by kernel_rfl)
noncomputable def fe158 : FE Tryz.prog := FE.of 158 Tryz.f158 (plT []) true Tryz.func158 rfl (by kernel_rfl) (by kernel_rfl)
noncomputable def fe159 : FE Tryz.prog := FE.of 159 Tryz.f159 (plT []) true Tryz.func159 rfl (by kernel_rfl) (by kernel_rfl)
noncomputable def fe160 : FE Tryz.prog := FE.of 160 Tryz.f160 (plT []) true Tryz.func160 rfl (by kernel_rfl) (by kernel_rfl)
noncomputable def fe161 : FE Tryz.prog := FE.of 161 Tryz.f161 (plT pl161) false Tryz.func161 rfl (by kernel_rfl) (by kernel_rfl)
noncomputable def fe162 : FE Tryz.prog := FE.of 162 Tryz.f162 (plT pl162) false Tryz.func162 rfl (by kernel_rfl) (by kernel_rfl)
noncomputable def fe163 : FE Tryz.prog := FE.of 163 Tryz.f163 (plT []) true Tryz.func163 rfl (by kernel_rfl) (by kernel_rfl)
noncomputable def fe164 : FE Tryz.prog := FE.of 164 Tryz.f164 (plT []) true Tryz.func164 rfl (by kernel_rfl) (by kernel_rfl)
noncomputable def fe165 : FE Tryz.prog := FE.of 165 Tryz.f165 (plT pl165) true Tryz.func165 rfl (by kernel_rfl) (by kernel_rfl)
noncomputable def fe166 : FE Tryz.prog := FE.of 166 Tryz.f166 (plT pl166) true Tryz.func166 rfl (by kernel_rfl) (by kernel_rfl)
noncomputable def fe167 : FE Tryz.prog := FE.of 167 Tryz.f167 (plT pl167) false Tryz.func167 rfl (by kernel_rfl) (by kernel_rfl)
noncomputable def fe168 : FE Tryz.prog := FE.of 168 Tryz.f168 (plT pl168) false Tryz.func168 rfl (by kernel_rfl) (by kernel_rfl)
noncomputable def fe169 : FE Tryz.prog := FE.of 169 Tryz.f169 (plT pl169) false Tryz.func169 rfl (by kernel_rfl) (by kernel_rfl)
noncomputable def fe170 : FE Tryz.prog := FE.of 170 Tryz.f170 (plT []) false Tryz.func170 rfl (by kernel_rfl) (by kernel_rfl)
noncomputable def fe171 : FE Tryz.prog := FE.of 171 Tryz.f171 (plT pl171) false Tryz.func171 rfl (by kernel_rfl) (by kernel_rfl)
noncomputable def fe172 : FE Tryz.prog := FE.of 172 Tryz.f172 (plT []) true Tryz.func172 rfl (by kernel_rfl) (by kernel_rfl)
noncomputable def fe173 : FE Tryz.prog := FE.of 173 Tryz.f173 (plT pl173) true Tryz.func173 rfl (by kernel_rfl) (by kernel_rfl)
noncomputable def fe174 : FE Tryz.prog := FE.of 174 Tryz.f174 (plT []) true Tryz.func174 rfl (by kernel_rfl) (by kernel_rfl)
noncomputable def fe175 : FE Tryz.prog := FE.of 175 Tryz.f175 (plT []) true Tryz.func175 rfl (by kernel_rfl) (by kernel_rfl)
noncomputable def fe176 : FE Tryz.prog := FE.of 176 Tryz.f176 (plT []) true Tryz.func176 rfl (by kernel_rfl) (by kernel_rfl)
noncomputable def fe177 : FE Tryz.prog := FE.of 177 Tryz.f177 (plT []) true Tryz.func177 rfl (by kernel_rfl) (by kernel_rfl)
noncomputable def fe178 : FE Tryz.prog := FE.of 178 Tryz.f178 (plT []) true Tryz.func178 rfl (by kernel_rfl) (by kernel_rfl)
noncomputable def fe179 : FE Tryz.prog := FE.of 179 Tryz.f179 (plT []) true Tryz.func179 rfl (by kernel_rfl) (by kernel_rfl)
noncomputable def fe180 : FE Tryz.prog := FE.of 180 Tryz.f180 (plT []) true Tryz.func180 rfl (by kernel_rfl) (by kernel_rfl)
noncomputable def fe181 : FE Tryz.prog := FE.of 181 Tryz.f181 (plT []) false Tryz.func181 rfl (by kernel_rfl) (by kernel_rfl)
noncomputable def fe182 : FE Tryz.prog := FE.of 182 Tryz.f182 (plT []) true Tryz.func182 rfl (by kernel_rfl) (by kernel_rfl)
noncomputable def fe183 : FE Tryz.prog := FE.of 183 Tryz.f183 (plT []) true Tryz.func183 rfl (by kernel_rfl) (by kernel_rfl)
noncomputable def fe184 : FE Tryz.prog := FE.of 184 Tryz.f184 (plT []) true Tryz.func184 rfl (by kernel_rfl) (by kernel_rfl)
noncomputable def fe185 : FE Tryz.prog := FE.of 185 Tryz.f185 (plT []) true Tryz.func185 rfl (by kernel_rfl) (by kernel_rfl)
noncomputable def fe186 : FE Tryz.prog := FE.of 186 Tryz.f186 (plT pl186) true Tryz.func186 rfl (by kernel_rfl) (by kernel_rfl)
noncomputable def fe187 : FE Tryz.prog := FE.of 187 Tryz.f187 (plT pl187) true Tryz.func187 rfl (by kernel_rfl) (by kernel_rfl)
noncomputable def fe188 : FE Tryz.prog := FE.of 188 Tryz.f188 (plT []) true Tryz.func188 rfl (by kernel_rfl) (by kernel_rfl)
noncomputable def fe189 : FE Tryz.prog := FE.of 189 Tryz.f189 (plT []) true Tryz.func189 rfl (by kernel_rfl) (by kernel_rfl)
noncomputable def fe190 : FE Tryz.prog := FE.of 190 Tryz.f190 (plT []) true Tryz.func190 rfl (by kernel_rfl) (by kernel_rfl)
noncomputable def fe191 : FE Tryz.prog := FE.of 191 Tryz.f191 (plT []) true Tryz.func191 rfl (by kernel_rfl) (by kernel_rfl)
noncomputable def fe192 : FE Tryz.prog := FE.of 192 Tryz.f192 (plT []) true Tryz.func192 rfl (by kernel_rfl) (by kernel_rfl)
noncomputable def fe193 : FE Tryz.prog := FE.of 193 Tryz.f193 (plT []) true Tryz.func193 rfl (by kernel_rfl) (by kernel_rfl)
noncomputable def fe194 : FE Tryz.prog := FE.of 194 Tryz.f194 (plT pl194) false Tryz.func194 rfl (by kernel_rfl) (by kernel_rfl)
noncomputable def fe195 : FE Tryz.prog := FE.of 195 Tryz.f195 (plT pl195) false Tryz.func195 rfl (by kernel_rfl) (by kernel_rfl)
noncomputable def fe196 : FE Tryz.prog := FE.of 196 Tryz.f196 (plT pl196) false Tryz.func196 rfl (by kernel_rfl) (by kernel_rfl)
noncomputable def fe197 : FE Tryz.prog := FE.of 197 Tryz.f197 (plT []) true Tryz.func197 rfl (by kernel_rfl) (by kernel_rfl)
noncomputable def fe198 : FE Tryz.prog := FE.of 198 Tryz.f198 (plT []) true Tryz.func198 rfl (by kernel_rfl) (by kernel_rfl)
noncomputable def fe199 : FE Tryz.prog := FE.of 199 Tryz.f199 (plT pl199) false Tryz.func199 rfl (by kernel_rfl) (by kernel_rfl)
noncomputable def fe200 : FE Tryz.prog := FE.of 200 Tryz.f200 (plT []) false Tryz.func200 rfl (by kernel_rfl) (by kernel_rfl)
noncomputable def fe201 : FE Tryz.prog := FE.of 201 Tryz.f201 (plT []) true Tryz.func201 rfl (by kernel_rfl) (by kernel_rfl)
noncomputable def fe202 : FE Tryz.prog := FE.of 202 Tryz.f202 (plT pl202) true Tryz.func202 rfl (by kernel_rfl) (by kernel_rfl)
noncomputable def fe203 : FE Tryz.prog := FE.of 203 Tryz.f203 (plT pl203) false Tryz.func203 rfl (by kernel_rfl) (by kernel_rfl)
noncomputable def fe204 : FE Tryz.prog := FE.of 204 Tryz.f204 (plT []) false Tryz.func204 rfl (by kernel_rfl) (by kernel_rfl)
noncomputable def fe205 : FE Tryz.prog := FE.of 205 Tryz.f205 (plT pl205) true Tryz.func205 rfl (by kernel_rfl) (by kernel_rfl)
noncomputable def fe206 : FE Tryz.prog := FE.of 206 Tryz.f206 (plT []) false Tryz.func206 rfl (by kernel_rfl) (by kernel_rfl)
noncomputable def fe207 : FE Tryz.prog := FE.of 207 Tryz.f207 (plT []) false Tryz.func207 rfl (by kernel_rfl) (by kernel_rfl)
noncomputable def fe208 : FE Tryz.prog := FE.of 208 Tryz.f208 (plT []) true Tryz.func208 rfl (by kernel_rfl) (by kernel_rfl)
noncomputable def fe209 : FE Tryz.prog := FE.of 209 Tryz.f209 (plT []) true Tryz.func209 rfl (by kernel_rfl) (by kernel_rfl)
noncomputable def fe210 : FE Tryz.prog := FE.of 210 Tryz.f210 (plT []) true Tryz.func210 rfl (by kernel_rfl) (by kernel_rfl)
noncomputable def fe212 : FE Tryz.prog := FE.of 212 Tryz.f212 (plT []) true Tryz.func212 rfl (by kernel_rfl) (by kernel_rfl)
noncomputable def fe213 : FE Tryz.prog := FE.of 213 Tryz.f213 (plT []) true Tryz.func213 rfl (by kernel_rfl) (by kernel_rfl)
noncomputable def fe214 : FE Tryz.prog := FE.of 214 Tryz.f214 (plT []) true Tryz.func214 rfl (by kernel_rfl) (by kernel_rfl)
noncomputable def fe215 : FE Tryz.prog := FE.of 215 Tryz.f215 (plT []) true Tryz.func215 rfl (by kernel_rfl) (by kernel_rfl)
noncomputable def fe216 : FE Tryz.prog := FE.of 216 Tryz.f216 (plT []) true Tryz.func216 rfl (by kernel_rfl) (by kernel_rfl)
noncomputable def fe217 : FE Tryz.prog := FE.of 217 Tryz.f217 (plT []) true Tryz.func217 rfl (by kernel_rfl) (by kernel_rfl)
noncomputable def fe218 : FE Tryz.prog := FE.of 218 Tryz.f218 (plT []) true Tryz.func218 rfl (by kernel_rfl) (by kernel_rfl)
noncomputable def fe219 : FE Tryz.prog := FE.of 219 Tryz.f219 (plT []) true Tryz.func219 rfl (by kernel_rfl) (by kernel_rfl)
noncomputable def fe220 : FE Tryz.prog := FE.of 220 Tryz.f220 (plT []) true Tryz.func220 rfl (by kernel_rfl) (by kernel_rfl)
noncomputable def fe221 : FE Tryz.prog := FE.of 221 Tryz.f221 (plT []) true Tryz.func221 rfl (by kernel_rfl) (by kernel_rfl)
noncomputable def fe222 : FE Tryz.prog := FE.of 222 Tryz.f222 (plT []) true Tryz.func222 rfl (by kernel_rfl) (by kernel_rfl)
noncomputable def fe223 : FE Tryz.prog := FE.of 223 Tryz.f223 (plT pl223) true Tryz.func223 rfl (by kernel_rfl) (by kernel_rfl)
noncomputable def fe224 : FE Tryz.prog := FE.of 224 Tryz.f224 (plT []) true Tryz.func224 rfl (by kernel_rfl) (by kernel_rfl)
noncomputable def fe225 : FE Tryz.prog := FE.of 225 Tryz.f225 (plT []) true Tryz.func225 rfl (by kernel_rfl) (by kernel_rfl)
noncomputable def fe226 : FE Tryz.prog := FE.of 226 Tryz.f226 (plT []) true Tryz.func226 rfl (by kernel_rfl) (by kernel_rfl)
noncomputable def fe227 : FE Tryz.prog := FE.of 227 Tryz.f227 (plT []) true Tryz.func227 rfl (by kernel_rfl) (by kernel_rfl)
noncomputable def fe228 : FE Tryz.prog := FE.of 228 Tryz.f228 (plT []) true Tryz.func228 rfl (by kernel_rfl) (by kernel_rfl)
noncomputable def fe229 : FE Tryz.prog := FE.of 229 Tryz.f229 (plT []) true Tryz.func229 rfl (by kernel_rfl) (by kernel_rfl)
noncomputable def fe230 : FE Tryz.prog := FE.of 230 Tryz.f230 (plT pl230) true Tryz.func230 rfl (by kernel_rfl) (by kernel_rfl)
noncomputable def fe231 : FE Tryz.prog := FE.of 231 Tryz.f231 (plT pl231) true Tryz.func231 rfl (by kernel_rfl) (by kernel_rfl)
noncomputable def fe232 : FE Tryz.prog := FE.of 232 Tryz.f232 (plT []) true Tryz.func232 rfl (by kernel_rfl) (by kernel_rfl)
noncomputable def fe233 : FE Tryz.prog := FE.of 233 Tryz.f233 (plT []) true Tryz.func233 rfl (by kernel_rfl) (by kernel_rfl)
noncomputable def fe234 : FE Tryz.prog := FE.of 234 Tryz.f234 (plT []) true Tryz.func234 rfl (by kernel_rfl) (by kernel_rfl)
noncomputable def fe235 : FE Tryz.prog := FE.of 235 Tryz.f235 (plT []) true Tryz.func235 rfl (by kernel_rfl) (by kernel_rfl)
noncomputable def fe236 : FE Tryz.prog := FE.of 236 Tryz.f236 (plT []) true Tryz.func236 rfl (by kernel_rfl) (by kernel_rfl)
noncomputable def fe237 : FE Tryz.prog := FE.of 237 Tryz.f237 (plT []) true Tryz.func237 rfl (by kernel_rfl) (by kernel_rfl)
noncomputable def fe238 : FE Tryz.prog := FE.of 238 Tryz.f238 (plT []) true Tryz.func238 rfl (by kernel_rfl) (by kernel_rfl)
noncomputable def fe239 : FE Tryz.prog := FE.of 239 Tryz.f239 (plT pl239) true Tryz.func239 rfl (by kernel_rfl) (by kernel_rfl)
noncomputable def fe240 : FE Tryz.prog := FE.of 240 Tryz.f240 (plT []) true Tryz.func240 rfl (by kernel_rfl) (by kernel_rfl)
noncomputable def fe241 : FE Tryz.prog := FE.of 241 Tryz.f241 (plT []) true Tryz.func241 rfl (by kernel_rfl) (by kernel_rfl)
noncomputable def fe242 : FE Tryz.prog := FE.of 242 Tryz.f242 (plT []) true Tryz.func242 rfl (by kernel_rfl) (by kernel_rfl)
noncomputable def fe243 : FE Tryz.prog := FE.of 243 Tryz.f243 (plT []) true Tryz.func243 rfl (by kernel_rfl) (by kernel_rfl)
noncomputable def fe244 : FE Tryz.prog := FE.of 244 Tryz.f244 (plT []) true Tryz.func244 rfl (by kernel_rfl) (by kernel_rfl)
noncomputable def fe245 : FE Tryz.prog := FE.of 245 Tryz.f245 (plT []) false Tryz.func245 rfl (by kernel_rfl) (by kernel_rfl)
noncomputable def fe246 : FE Tryz.prog := FE.of 246 Tryz.f246 (plT pl246) false Tryz.func246 rfl (by kernel_rfl) (by kernel_rfl)
noncomputable def fe248 : FE Tryz.prog := FE.of 248 Tryz.f248 (plT []) true Tryz.func248 rfl (by kernel_rfl) (by kernel_rfl)
noncomputable def fe249 : FE Tryz.prog := FE.of 249 Tryz.f249 (plT []) true Tryz.func249 rfl (by kernel_rfl) (by kernel_rfl)
noncomputable def fe250 : FE Tryz.prog := FE.of 250 Tryz.f250 (plT []) true Tryz.func250 rfl (by kernel_rfl) (by kernel_rfl)
noncomputable def fe251 : FE Tryz.prog := FE.of 251 Tryz.f251 (plT []) true Tryz.func251 rfl (by kernel_rfl) (by kernel_rfl)
noncomputable def fe252 : FE Tryz.prog := FE.of 252 Tryz.f252 (plT []) true Tryz.func252 rfl (by kernel_rfl) (by kernel_rfl)
noncomputable def fe253 : FE Tryz.prog := FE.of 253 Tryz.f253 (plT []) true Tryz.func253 rfl (by kernel_rfl) (by kernel_rfl)
noncomputable def fe254 : FE Tryz.prog := FE.of 254 Tryz.f254 (plT []) true Tryz.func254 rfl (by kernel_rfl) (by kernel_rfl)
noncomputable def fe255 : FE Tryz.prog := FE.of 255 Tryz.f255 (plT []) true Tryz.func255 rfl (by kernel_rfl) (by kernel_rfl)
noncomputable def fe256 : FE Tryz.prog := FE.of 256 Tryz.f256 (plT []) true Tryz.func256 rfl (by kernel_rfl) (by kernel_rfl)
noncomputable def fe257 : FE Tryz.prog := FE.of 257 Tryz.f257 (plT []) true Tryz.func257 rfl (by kernel_rfl) (by kernel_rfl)
noncomputable def fe258 : FE Tryz.prog := FE.of 258 Tryz.f258 (plT []) true Tryz.func258 rfl (by kernel_rfl) (by kernel_rfl)
noncomputable def fe259 : FE Tryz.prog := FE.of 259 Tryz.f259 (plT []) true Tryz.func259 rfl (by kernel_rfl) (by kernel_rfl)
noncomputable def fe260 : FE Tryz.prog := FE.of 260 Tryz.f260 (plT []) true Tryz.func260 rfl (by kernel_rfl) (by kernel_rfl)
noncomputable def fe261 : FE Tryz.prog := FE.of 261 Tryz.f261 (plT []) true Tryz.func261 rfl (by kernel_rfl) (by kernel_rfl)
noncomputable def fe262 : FE Tryz.prog := FE.of 262 Tryz.f262 (plT []) true Tryz.func262 rfl (by kernel_rfl) (by kernel_rfl)
noncomputable def fe263 : FE Tryz.prog := FE.of 263 Tryz.f263 (plT []) true Tryz.func263 rfl (by kernel_rfl) (by kernel_rfl)
noncomputable def fe264 : FE Tryz.prog := FE.of 264 Tryz.f264 (plT []) true Tryz.func264 rfl (by kernel_rfl) (by kernel_rfl)
noncomputable def fe265 : FE Tryz.prog := FE.of 265 Tryz.f265 (plT []) true Tryz.func265 rfl (by kernel_rfl) (by kernel_rfl)
noncomputable def fe266 : FE Tryz.prog := FE.of 266 Tryz.f266 (plT []) true Tryz.func266 rfl (by kernel_rfl) (by kernel_rfl)
noncomputable def fe267 : FE Tryz.prog := FE.of 267 Tryz.f267 (plT []) true Tryz.func267 rfl (by kernel_rfl) (by kernel_rfl)
noncomputable def fe268 : FE Tryz.prog := FE.of 268 Tryz.f268 (plT []) true Tryz.func268 rfl (by kernel_rfl) (by kernel_rfl)
noncomputable def fe269 : FE Tryz.prog := FE.of 269 Tryz.f269 (plT []) true Tryz.func269 rfl (by kernel_rfl) (by kernel_rfl)
noncomputable def fe270 : FE Tryz.prog := FE.of 270 Tryz.f270 (plT []) true Tryz.func270 rfl (by kernel_rfl) (by kernel_rfl)
noncomputable def fe271 : FE Tryz.prog := FE.of 271 Tryz.f271 (plT []) true Tryz.func271 rfl (by kernel_rfl) (by kernel_rfl)
noncomputable def fe274 : FE Tryz.prog := FE.of 274 Tryz.f274 (plT []) true Tryz.func274 rfl (by kernel_rfl) (by kernel_rfl)
noncomputable def fe275 : FE Tryz.prog := FE.of 275 Tryz.f275 (plT []) true Tryz.func275 rfl (by kernel_rfl) (by kernel_rfl)
noncomputable def fe276 : FE Tryz.prog := FE.of 276 Tryz.f276 (plT []) true Tryz.func276 rfl (by kernel_rfl) (by kernel_rfl)
noncomputable def fe277 : FE Tryz.prog := FE.of 277 Tryz.f277 (plT []) true Tryz.func277 rfl (by kernel_rfl) (by kernel_rfl)
noncomputable def fe278 : FE Tryz.prog := FE.of 278 Tryz.f278 (plT []) true Tryz.func278 rfl (by kernel_rfl) (by kernel_rfl)
noncomputable def fe279 : FE Tryz.prog := FE.of 279 Tryz.f279 (plT []) true Tryz.func279 rfl (by kernel_rfl) (by kernel_rfl)
noncomputable def fe280 : FE Tryz.prog := FE.of 280 Tryz.f280 (plT []) true Tryz.func280 rfl (by kernel_rfl) (by kernel_rfl)
noncomputable def fe281 : FE Tryz.prog := FE.of 281 Tryz.f281 (plT []) true Tryz.func281 rfl (by kernel_rfl) (by kernel_rfl)
noncomputable def fe282 : FE Tryz.prog := FE.of 282 Tryz.f282 (plT []) true Tryz.func282 rfl (by kernel_rfl) (by kernel_rfl)
noncomputable def fe283 : FE Tryz.prog := FE.of 283 Tryz.f283 (plT pl283) true Tryz.func283 rfl (by kernel_rfl) (by kernel_rfl)
noncomputable def fe284 : FE Tryz.prog := FE.of 284 Tryz.f284 (plT []) true Tryz.func284 rfl (by kernel_rfl) (by kernel_rfl)
noncomputable def fe286 : FE Tryz.prog := FE.of 286 Tryz.f286 (plT []) true Tryz.func286 rfl (by kernel_rfl) (by kernel_rfl)
noncomputable def fe287 : FE Tryz.prog := FE.of 287 Tryz.f287 (plT []) true Tryz.func287 rfl (by kernel_rfl) (by kernel_rfl)
noncomputable def fe288 : FE Tryz.prog := FE.of 288 Tryz.f288 (plT []) true Tryz.func288 rfl (by kernel_rfl) (by kernel_rfl)
noncomputable def fes : FT Tryz.prog := (.node fe143 (.node fe73 (.node fe38 (.node fe20 (.node fe11 (.node fe7 (.node fe5 (.node fe4 (.node fe3 .leaf .leaf) .leaf) (.node fe6 .leaf .leaf)) (.node fe9 (.node fe8 .leaf .leaf) (.node fe10 .leaf .leaf))) (.node fe16 (.node fe14 (.node fe13 (.node fe12 .leaf .leaf) .leaf) (.node fe15 .leaf .leaf)) (.node fe18 (.node fe17 .leaf .leaf) (.node fe19 .leaf .leaf)))) (.node fe29 (.node fe25 (.node fe23 (.node fe22 (.node fe21 .leaf .leaf) .leaf) (.node fe24 .leaf .leaf)) (.node fe27 (.node fe26 .leaf .leaf) (.node fe28 .leaf .leaf))) (.node fe34 (.node fe32 (.node fe31 (.node fe30 .leaf .leaf) .leaf) (.node fe33 .leaf .leaf)) (.node fe36 (.node fe35 .leaf .leaf) (.node fe37 .leaf .leaf))))) (.node fe56 (.node fe47 (.node fe43 (.node fe41 (.node fe40 (.node fe39 .leaf .leaf) .leaf) (.node fe42 .leaf .leaf)) (.node fe45 (.node fe44 .leaf .leaf) (.node fe46 .leaf .leaf))) (.node fe52 (.node fe50 (.node fe49 (.node fe48 .leaf .leaf) .leaf) (.node fe51 .leaf .leaf)) (.node fe54 (.node fe53 .leaf .leaf) (.node fe55 .leaf .leaf)))) (.node fe65 (.node fe61 (.node fe59 (.node fe58 (.node fe57 .leaf .leaf) .leaf) (.node fe60 .leaf .leaf)) (.node fe63 (.node fe62 .leaf .leaf) (.node fe64 .leaf .leaf))) (.node fe69 (.node fe67 (.node fe66 .leaf .leaf) (.node fe68 .leaf .leaf)) (.node fe71 (.node fe70 .leaf .leaf) (.node fe72 .leaf .leaf)))))) (.node fe108 (.node fe91 (.node fe82 (.node fe78 (.node fe76 (.node fe75 (.node fe74 .leaf .leaf) .leaf) (.node fe77 .leaf .leaf)) (.node fe80 (.node fe79 .leaf .leaf) (.node fe81 .leaf .leaf))) (.node fe87 (.node fe85 (.node fe84 (.node fe83 .leaf .leaf) .leaf) (.node fe86 .leaf .leaf)) (.node fe89 (.node fe88 .leaf .leaf) (.node fe90 .leaf .leaf)))) (.node fe100 (.node fe96 (.node fe94 (.node fe93 (.node fe92 .leaf .leaf) .leaf) (.node fe95 .leaf .leaf)) (.node fe98 (.node fe97 .leaf .leaf) (.node fe99 .leaf .leaf))) (.node fe104 (.node fe102 (.node fe101 .leaf .leaf) (.node fe103 .leaf .leaf)) (.node fe106 (.node fe105 .leaf .leaf) (.node fe107 .leaf .leaf))))) (.node fe126 (.node fe117 (.node fe113 (.node fe111 (.node fe110 (.node fe109 .leaf .leaf) .leaf) (.node fe112 .leaf .leaf)) (.node fe115 (.node fe114 .leaf .leaf) (.node fe116 .leaf .leaf))) (.node fe122 (.node fe120 (.node fe119 (.node fe118 .leaf .leaf) .leaf) (.node fe121 .leaf .leaf)) (.node fe124 (.node fe123 .leaf .leaf) (.node fe125 .leaf .leaf)))) (.node fe135 (.node fe131 (.node fe129 (.node fe128 (.node fe127 .leaf .leaf) .leaf) (.node fe130 .leaf .leaf)) (.node fe133 (.node fe132 .leaf .leaf) (.node fe134 .leaf .leaf))) (.node fe139 (.node fe137 (.node fe136 .leaf .leaf) (.node fe138 .leaf .leaf)) (.node fe141 (.node fe140 .leaf .leaf) (.node fe142 .leaf .leaf))))))) (.node fe215 (.node fe179 (.node fe161 (.node fe152 (.node fe148 (.node fe146 (.node fe145 (.node fe144 .leaf .leaf) .leaf) (.node fe147 .leaf .leaf)) (.node fe150 (.node fe149 .leaf .leaf) (.node fe151 .leaf .leaf))) (.node fe157 (.node fe155 (.node fe154 (.node fe153 .leaf .leaf) .leaf) (.node fe156 .leaf .leaf)) (.node fe159 (.node fe158 .leaf .leaf) (.node fe160 .leaf .leaf)))) (.node fe170 (.node fe166 (.node fe164 (.node fe163 (.node fe162 .leaf .leaf) .leaf) (.node fe165 .leaf .leaf)) (.node fe168 (.node fe167 .leaf .leaf) (.node fe169 .leaf .leaf))) (.node fe175 (.node fe173 (.node fe172 (.node fe171 .leaf .leaf) .leaf) (.node fe174 .leaf .leaf)) (.node fe177 (.node fe176 .leaf .leaf) (.node fe178 .leaf .leaf))))) (.node fe197 (.node fe188 (.node fe184 (.node fe182 (.node fe181 (.node fe180 .leaf .leaf) .leaf) (.node fe183 .leaf .leaf)) (.node fe186 (.node fe185 .leaf .leaf) (.node fe187 .leaf .leaf))) (.node fe193 (.node fe191 (.node fe190 (.node fe189 .leaf .leaf) .leaf) (.node fe192 .leaf .leaf)) (.node fe195 (.node fe194 .leaf .leaf) (.node fe196 .leaf .leaf)))) (.node fe206 (.node fe202 (.node fe200 (.node fe199 (.node fe198 .leaf .leaf) .leaf) (.node fe201 .leaf .leaf)) (.node fe204 (.node fe203 .leaf .leaf) (.node fe205 .leaf .leaf))) (.node fe210 (.node fe208 (.node fe207 .leaf .leaf) (.node fe209 .leaf .leaf)) (.node fe213 (.node fe212 .leaf .leaf) (.node fe214 .leaf .leaf)))))) (.node fe251 (.node fe233 (.node fe224 (.node fe220 (.node fe218 (.node fe217 (.node fe216 .leaf .leaf) .leaf) (.node fe219 .leaf .leaf)) (.node fe222 (.node fe221 .leaf .leaf) (.node fe223 .leaf .leaf))) (.node fe229 (.node fe227 (.node fe226 (.node fe225 .leaf .leaf) .leaf) (.node fe228 .leaf .leaf)) (.node fe231 (.node fe230 .leaf .leaf) (.node fe232 .leaf .leaf)))) (.node fe242 (.node fe238 (.node fe236 (.node fe235 (.node fe234 .leaf .leaf) .leaf) (.node fe237 .leaf .leaf)) (.node fe240 (.node fe239 .leaf .leaf) (.node fe241 .leaf .leaf))) (.node fe246 (.node fe244 (.node fe243 .leaf .leaf) (.node fe245 .leaf .leaf)) (.node fe249 (.node fe248 .leaf .leaf) (.node fe250 .leaf .leaf))))) (.node fe269 (.node fe260 (.node fe256 (.node fe254 (.node fe253 (.node fe252 .leaf .leaf) .leaf) (.node fe255 .leaf .leaf)) (.node fe258 (.node fe257 .leaf .leaf) (.node fe259 .leaf .leaf))) (.node fe265 (.node fe263 (.node fe262 (.node fe261 .leaf .leaf) .leaf) (.node fe264 .leaf .leaf)) (.node fe267 (.node fe266 .leaf .leaf) (.node fe268 .leaf .leaf)))) (.node fe280 (.node fe276 (.node fe274 (.node fe271 (.node fe270 .leaf .leaf) .leaf) (.node fe275 .leaf .leaf)) (.node fe278 (.node fe277 .leaf .leaf) (.node fe279 .leaf .leaf))) (.node fe284 (.node fe282 (.node fe281 .leaf .leaf) (.node fe283 .leaf .leaf)) (.node fe287 (.node fe286 .leaf .leaf) (.node fe288 .leaf .leaf))))))))
end Go.Proofs.YtgnnakibcjonbaaGreatDoor.VE

/- Chapter 16: awake says yes (the program run in the kernel; half a minute). -/
namespace Go.Proofs.YtgnnakibcjonbaaGreatDoor.VE
open Go Go.RowKit
set_option maxRecDepth 100000
theorem awake_run : yesX (gam [X172]) fes 1000 30 23 = true := by kernel_rfl
theorem awake_ok : AnyOk Tryz.prog 23 [] True (.d (.bool true)) := yesX_ok (gam_ok [X172]) (gam_sure fun e he => by
  rcases List.mem_cons.1 he with rfl | he
  · exact X172_s
  · cases he) awake_run
end Go.Proofs.YtgnnakibcjonbaaGreatDoor.VE

/- Chapter 16: the law RawTables. -/
namespace Go.Proofs.YtgnnakibcjonbaaGreatDoor.VE
open Go Go.RowKit
set_option maxRecDepth 100000
set_option maxHeartbeats 2000000
set_option linter.unusedSimpArgs false
set_option linter.unusedVariables false
noncomputable def E23 : Ent Tryz.prog := ⟨23, fun
    | [] => some (True, .d (.bool true))
    | _ => none, fun args p r h => by
  split at h
  · simp only [Option.some.injEq, Prod.mk.injEq] at h
    obtain ⟨rfl, rfl⟩ := h
    exact awake_ok
  · cases h⟩
@[go_sem ↓] theorem E23_f : E23.f = 23 := rfl
@[go_sem ↓] theorem E23_c : E23.c [] = some (True, .d (.bool true)) := rfl

theorem t4 (l : List Ly) (s : ByteArray) : PureOk Tryz.prog 4 [.d (.sl 3 (l.map encLy)), .d (.str s)] (True) (.d (.bool true)) := by
  refine pure_fnW (C := fun gm => ⟨T, gam [E23, E24, E15, E25, E12, E26, E27, E28], dam (P := Tryz.prog) [], plT [], ⟨gm, fun _ _ => none⟩⟩) (fun _ => tok) Tryz.func4 rfl (Nat.le_of_ble_eq_true rfl) rfl (fun m => rfl) fun gm hp => ?_
  unfold Tryz.f4
  refine W_pre tok (cok T _ _ _ gm) mixed (by kernel_rfl) ?_
  simp only [go_sem, ↓reduceIte, Nat.reduceEqDiff, reduceCtorEq, Nat.reduceAdd, Nat.reduceLeDiff, Nat.reduceSub, Nat.reduceMul, Nat.reduceMod, Nat.reduceLT, asD, asD1, cellDs, cellD, V.scal, D.scal, ← List.map_take, ← List.map_drop, List.drop_zero, List.map_cons, List.map_nil, idxV, List.length_map, Int.toNat_natCast]
  refine W_pre tok (cok T _ _ _ gm) mixed (by kernel_rfl) ?_
  simp only [go_sem, ↓reduceIte, Nat.reduceEqDiff, reduceCtorEq, Nat.reduceAdd, Nat.reduceLeDiff, Nat.reduceSub, Nat.reduceMul, Nat.reduceMod, Nat.reduceLT, asD, asD1, cellDs, cellD, V.scal, D.scal, ← List.map_take, ← List.map_drop, List.drop_zero, List.map_cons, List.map_nil, idxV, List.length_map, Int.toNat_natCast]
  refine ⟨fun h => h.elim, ?_⟩
  refine W_pre tok (cok T _ _ _ gm) mixed (by kernel_rfl) ?_
  simp only [go_sem, ↓reduceIte, Nat.reduceEqDiff, reduceCtorEq, Nat.reduceAdd, Nat.reduceLeDiff, Nat.reduceSub, Nat.reduceMul, Nat.reduceMod, Nat.reduceLT, asD, asD1, cellDs, cellD, V.scal, D.scal, ← List.map_take, ← List.map_drop, List.drop_zero, List.map_cons, List.map_nil, idxV, List.length_map, Int.toNat_natCast]
  refine ⟨fun h => by rw [h]; rfl, fun h => ?_⟩
  have hf : fewB l = true := by
    cases hf : fewB l with
    | true => rfl
    | false => rw [hf] at h; cases h
  obtain ⟨hl, hs⟩ := few_small hf
  refine W_pre tok (cok T _ _ _ gm) mixed (by kernel_rfl) ?_
  simp only [go_sem, ↓reduceIte, Nat.reduceEqDiff, reduceCtorEq, Nat.reduceAdd, Nat.reduceLeDiff, Nat.reduceSub, Nat.reduceMul, Nat.reduceMod, Nat.reduceLT, asD, asD1, cellDs, cellD, V.scal, D.scal, ← List.map_take, ← List.map_drop, List.drop_zero, List.map_cons, List.map_nil, idxV, List.length_map, Int.toNat_natCast]
  refine ⟨⟨by omega, hs⟩, hs, ?_⟩
  refine W_pre tok (cok T _ _ _ gm) mixed (by kernel_rfl) ?_
  simp only [go_sem, ↓reduceIte, Nat.reduceEqDiff, reduceCtorEq, Nat.reduceAdd, Nat.reduceLeDiff, Nat.reduceSub, Nat.reduceMul, Nat.reduceMod, Nat.reduceLT, asD, asD1, cellDs, cellD, V.scal, D.scal, ← List.map_take, ← List.map_drop, List.drop_zero, List.map_cons, List.map_nil, idxV, List.length_map, Int.toNat_natCast]
  refine ⟨hs, ?_⟩
  refine W_pre tok (cok T _ _ _ gm) mixed (by kernel_rfl) ?_
  simp only [go_sem, ↓reduceIte, Nat.reduceEqDiff, reduceCtorEq, Nat.reduceAdd, Nat.reduceLeDiff, Nat.reduceSub, Nat.reduceMul, Nat.reduceMod, Nat.reduceLT, asD, asD1, cellDs, cellD, V.scal, D.scal, ← List.map_take, ← List.map_drop, List.drop_zero, List.map_cons, List.map_nil, idxV, bne_self_eq_false, cond_false, Bool.not_false, true_and, List.length_map, Int.toNat_natCast]
  refine ⟨fun h => h.elim, ?_⟩
  refine W_pre tok (cok T _ _ _ gm) mixed (by kernel_rfl) ?_
  simp only [go_sem, ↓reduceIte, Nat.reduceEqDiff, reduceCtorEq, Nat.reduceAdd, Nat.reduceLeDiff, Nat.reduceSub, Nat.reduceMul, Nat.reduceMod, Nat.reduceLT, asD, asD1, cellDs, cellD, V.scal, D.scal, ← List.map_take, ← List.map_drop, List.drop_zero, List.map_cons, List.map_nil, idxV, List.length_map, Int.toNat_natCast]
  refine ⟨⟨by omega, hs⟩, hs, ?_⟩
  refine W_pre tok (cok T _ _ _ gm) mixed (by kernel_rfl) ?_
  simp only [go_sem, ↓reduceIte, Nat.reduceEqDiff, reduceCtorEq, Nat.reduceAdd, Nat.reduceLeDiff, Nat.reduceSub, Nat.reduceMul, Nat.reduceMod, Nat.reduceLT, asD, asD1, cellDs, cellD, V.scal, D.scal, ← List.map_take, ← List.map_drop, List.drop_zero, List.map_cons, List.map_nil, idxV, List.length_map, Int.toNat_natCast]
  refine ⟨⟨hs, by omega⟩, ?_⟩
  have hw := widthIn_eq l s
  refine W_pre tok (cok T _ _ _ gm) mixed (by kernel_rfl) ?_
  simp only [go_sem, ↓reduceIte, Nat.reduceEqDiff, reduceCtorEq, Nat.reduceAdd, Nat.reduceLeDiff, Nat.reduceSub, Nat.reduceMul, Nat.reduceMod, Nat.reduceLT, asD, asD1, cellDs, cellD, V.scal, D.scal, ← List.map_take, ← List.map_drop, List.drop_zero, List.map_cons, List.map_nil, idxV, List.length_map, Int.toNat_natCast]
  refine ⟨fun h => ?_, fun h => ?_⟩
  · have h : (wholeT l s).2 ≠ 0 := by simpa using h
    rw [hw, if_neg h]
    simp
  have h : (wholeT l s).2 = 0 := by simpa using h
  rw [if_pos h] at hw
  have hp2 := place_whole l s
  obtain ⟨hr, p0, p1, _⟩ := placeT_ok (by rw [hp2]; exact h)
  rw [hp2] at p0 p1
  obtain ⟨i, hi⟩ := Int.eq_ofNat_of_zero_le p0
  rw [hi] at p1 hw
  have hwl := wAt_len (l := l) (i := l.length) (Nat.le_refl _)
  obtain ⟨v, hv⟩ : ∃ v, (wAt l l.length)[i]? = some v := ⟨_, List.getElem?_eq_getElem (by omega)⟩
  have hgv : ((wAt l l.length).map encI).getD i [] = encI v := by rw [List.getD_eq_getElem?_getD, List.getElem?_map, hv]; rfl
  have hiv : intAt (wAt l l.length) (i : Int) = v := by unfold intAt; rw [Int.toNat_natCast, hv]
  rw [hiv] at hw
  rw [hi]
  refine W_pre tok (cok T _ _ _ gm) mixed (by kernel_rfl) ?_
  simp only [go_sem, ↓reduceIte, Nat.reduceEqDiff, reduceCtorEq, Nat.reduceAdd, Nat.reduceLeDiff, Nat.reduceSub, Nat.reduceMul, Nat.reduceMod, Nat.reduceLT, asD, asD1, cellDs, cellD, V.scal, D.scal, ← List.map_take, ← List.map_drop, List.drop_zero, List.map_cons, List.map_nil, idxV, hgv, encI, List.length_map, Int.toNat_natCast]
  refine ⟨⟨hr, hs⟩, ⟨by omega, by omega⟩, fun a ha => ?_⟩
  obtain rfl := Option.some.inj (hv.symm.trans ha)
  refine W_run tok (cok T _ _ _ gm) mixed (by kernel_rfl) ?_
  simp only [go_sem, ↓reduceIte, Nat.reduceEqDiff, reduceCtorEq, Nat.reduceAdd, Nat.reduceLeDiff, Nat.reduceSub, Nat.reduceMul, Nat.reduceMod, Nat.reduceLT, asD, asD1, cellDs, cellD, V.scal, D.scal, ← List.map_take, ← List.map_drop, List.drop_zero, List.map_cons, List.map_nil, idxV, List.length_map, Int.toNat_natCast]
  rw [hw]
  refine ⟨fun h => ?_, fun h => ?_⟩
  · have h : v = -1 := by simpa using h
    rw [if_pos h]
    rfl
  · have h : v ≠ -1 := by simpa using h
    rw [if_neg h]
    simp
noncomputable def E4 : Ent Tryz.prog := Ent.of 4 (fnOk Tryz.func4 rfl (by kernel_rfl)) (fun
    | [.d (.sl 3 l), .d (.str s)] => (dec encLy l).bind fun l => some (True, .d (.bool true))
    | _ => none) fun args p r h => by
    split at h
    · obtain ⟨_, hd0, h0⟩ := Option.bind_eq_some_iff.1 h; clear h; have hd0 := dec_some hd0; subst hd0
      cases h0; exact t4 _ _
    · cases h
@[go_sem] theorem E4_f : E4.f = 4 := rfl
@[go_sem] theorem E4_c (l : List (List D)) (s : ByteArray) : E4.c [.d (.sl 3 l), .d (.str s)] = (dec encLy l).bind fun l => some (True, .d (.bool true)) := rfl
end Go.Proofs.YtgnnakibcjonbaaGreatDoor.VE

/- A law's arguments: what can be read as data is abstract data; the package-level variable that may be read holds a number. -/
namespace Go.Proofs.YtgnnakibcjonbaaGreatDoor.VE
open Go Go.RowKit
set_option linter.unusedVariables false
set_option linter.unusedSimpArgs false
theorem mapM_get {α β : Type} {f : α → Option β} : ∀ {l : List α} {r : List β}, l.mapM f = some r → r.length = l.length ∧ ∀ (i : Nat) x, l[i]? = some x → ∃ y, f x = some y ∧ r[i]? = some y := by
  intro l
  induction l with
  | nil => intro r h; simp at h; subst h; exact ⟨rfl, fun i x hx => by simp at hx⟩
  | cons a l ih =>
    intro r h
    rw [List.mapM_cons] at h
    cases ha : f a with
    | none => rw [ha] at h; simp at h
    | some b =>
      rw [ha] at h
      cases hl : l.mapM f with
      | none => rw [hl] at h; simp at h
      | some r' =>
        rw [hl] at h
        simp at h
        subst h
        obtain ⟨h1, h2⟩ := ih hl
        refine ⟨by simp [h1], fun i x hx => ?_⟩
        cases i with
        | zero => simp at hx; subst hx; exact ⟨b, ha, by simp⟩
        | succ i => simp at hx; obtain ⟨y, hy1, hy2⟩ := h2 i x hx; exact ⟨y, hy1, by simpa using hy2⟩
theorem exists_list {α : Type} {p : Nat → α → Prop} : ∀ n : Nat, (∀ i, i < n → ∃ x, p i x) → ∃ l : List α, l.length = n ∧ ∀ i x, l[i]? = some x → p i x
  | 0, _ => ⟨[], rfl, fun i x h => by simp at h⟩
  | n + 1, h => by
    obtain ⟨l, hl, hp⟩ := exists_list n (fun i hi => h i (by omega))
    obtain ⟨x, hx⟩ := h n (by omega)
    refine ⟨l ++ [x], by simp [hl], fun i y hy => ?_⟩
    rcases Nat.lt_or_ge i n with hi | hi
    · rw [List.getElem?_append_left (by omega)] at hy
      exact hp i y hy
    · have hi' : i = n := by
        have := (List.getElem?_eq_some_iff.1 hy).1
        simp [hl] at this
        omega
      subst hi'
      have : x = y := by simpa [← hl] using hy
      subst this
      exact hx
theorem cells_some {w : World} {base : Nat} {a : Addr} {n : Nat} {cs : List Value} (h : w.cells? base a n = some cs) : cs.length = n ∧ ∀ i u, cs[i]? = some u → w.cell? (a.add i) = some u := by
  unfold World.cells? at h
  split at h
  · obtain ⟨h1, h2⟩ := mapM_get h
    refine ⟨by simpa using h1, fun i u hu => ?_⟩
    have hi := (List.getElem?_eq_some_iff.1 hu).1
    obtain ⟨y, hy1, hy2⟩ := h2 i i (by simp at h1; rw [List.getElem?_range (by omega)])
    rw [hy2] at hu
    cases hu
    exact hy1
  · cases h
theorem add_add (a : Addr) (i j : Nat) : (a.add i).add j = a.add (i + j) := by
  unfold Addr.add
  by_cases hi : i = 0 <;> by_cases hj : j = 0 <;> simp [hi, hj, Nat.add_assoc]
theorem add_none {a : Addr} (h : a.spot = none) (i : Nat) : a.add i = ⟨a.block, a.off + i, none⟩ := by
  unfold Addr.add
  by_cases hi : i = 0
  · subst hi
    rw [if_pos rfl]
    cases a
    simp only at h
    subst h
    rfl
  · rw [if_neg hi]
theorem cell_spot {w : World} {a : Addr} {u : Value} (h : w.cell? a = some u) : a.spot = none ∧ a.block < w.heap.size := by
  unfold World.cell? at h
  split at h
  · rename_i e
    split at h
    · cases h
    · rename_i hs
      refine ⟨by simpa using hs, heap_lt e⟩
  · cases h
/-- Cells read as data, one by one. -/
def CellsV (w : World) (ds : List D) (cs : List Value) : Prop := cs.length = ds.length ∧ ∀ i (h : i < ds.length) (h2 : i < cs.length), Rd (fun b => b < w.heap.size) w ds[i] cs[i]
theorem CellsV.one {w : World} {d : D} {v : Value} (h : Rd (fun b => b < w.heap.size) w d v) : CellsV w [d] [v] := ⟨rfl, fun i h1 h2 => by
  obtain rfl : i = 0 := by simp at h1; omega
  exact h⟩
theorem CellsV.append {w : World} {d1 d2 : List D} {c1 c2 : List Value} (h1 : CellsV w d1 c1) (h2 : CellsV w d2 c2) : CellsV w (d1 ++ d2) (c1 ++ c2) := by
  refine ⟨by simp [h1.1, h2.1], fun i a b => ?_⟩
  rcases Nat.lt_or_ge i d1.length with c | c
  · rw [List.getElem_append_left c, List.getElem_append_left (by rw [h1.1]; exact c)]
    exact h1.2 i c _
  · have e := h1.1
    rw [List.getElem_append_right c, List.getElem_append_right (by omega)]
    have := h2.2 (i - d1.length) (by simp at a; omega) (by simp at b; omega)
    simpa only [e] using this
/-- Whatever reads as data of type t (so deep) is abstract data of a shape. -/
def OpnV (P : Program) (fuel : Nat) (t : TypeId) (S : List D → Prop) : Prop :=
  ∀ {H : Type} (enc : TypeId × Value → H) (w : World) (base : Nat) (sp : Nat → Bool) (held : Bool) (cs : List Value) (d : DataW H) (ps : List MemPlace), DataW.trod enc P w base sp held fuel t cs = some (d, ps) → ∃ ds, S ds ∧ CellsV w ds cs
def SInt (k : IntKind) (ds : List D) : Prop := ∃ n, ds = [.int k n] ∧ (Lit.int k n).wf = true
def SBool (ds : List D) : Prop := ∃ b, ds = [.bool b]
def SStr (ds : List D) : Prop := ∃ s, ds = [.str s] ∧ s.size ≤ maxLen
def SSl (m : Nat) (S : List D → Prop) (ds : List D) : Prop := ∃ rows, ds = [.sl m rows] ∧ rows.length ≤ maxLen ∧ ∀ r ∈ rows, S r
def SApp (S S' : List D → Prop) (ds : List D) : Prop := ∃ d1 d2, ds = d1 ++ d2 ∧ S d1 ∧ S' d2
theorem SInt.len {k : IntKind} : ∀ ds, SInt k ds → ds.length = 1 := fun ds ⟨_, h, _⟩ => by rw [h]; rfl
theorem SBool.len : ∀ ds, SBool ds → ds.length = 1 := fun ds ⟨_, h⟩ => by rw [h]; rfl
theorem SStr.len : ∀ ds, SStr ds → ds.length = 1 := fun ds ⟨_, h, _⟩ => by rw [h]; rfl
theorem SSl.len {m : Nat} {S : List D → Prop} : ∀ ds, SSl m S ds → ds.length = 1 := fun ds ⟨_, h, _⟩ => by rw [h]; rfl
theorem SApp.len {S S' : List D → Prop} {a b : Nat} (h : ∀ ds, S ds → ds.length = a) (h' : ∀ ds, S' ds → ds.length = b) : ∀ ds, SApp S S' ds → ds.length = a + b := fun ds ⟨d1, d2, e, h1, h2⟩ => by rw [e, List.length_append, h d1 h1, h' d2 h2]
section
variable {P : Program}
theorem OpnV.imp {fuel : Nat} {t : TypeId} {S S' : List D → Prop} (h : OpnV P fuel t S) (hS : ∀ ds, S ds → S' ds) : OpnV P fuel t S' := fun enc w base sp held cs d ps ht =>
  let ⟨ds, h1, h2⟩ := h enc w base sp held cs d ps ht
  ⟨ds, hS ds h1, h2⟩
theorem OpnV.zero {t : TypeId} {S : List D → Prop} : OpnV P 0 t S := fun enc w base sp held cs d ps ht => by simp [DataW.trod] at ht
theorem OpnV.int {fuel : Nat} {t : TypeId} {q : IntKind} (h : P.underlying t = some (.int q)) : OpnV P fuel t (SInt q) := by
  intro H enc w base sp held cs d ps ht
  cases fuel with
  | zero => simp [DataW.trod] at ht
  | succ m =>
    unfold DataW.trod at ht
    rw [h] at ht
    split at ht <;> simp_all
    obtain ⟨⟨rfl, hw⟩, _⟩ := ht
    exact ⟨[.int _ _], ⟨_, rfl, hw⟩, CellsV.one (by rw [Rd])⟩
theorem OpnV.bool {fuel : Nat} {t : TypeId} (h : P.underlying t = some .bool) : OpnV P fuel t SBool := by
  intro H enc w base sp held cs d ps ht
  cases fuel with
  | zero => simp [DataW.trod] at ht
  | succ m =>
    unfold DataW.trod at ht
    rw [h] at ht
    split at ht <;> simp_all
    rename_i b
    exact ⟨[.bool b], ⟨b, rfl⟩, CellsV.one (by rw [Rd])⟩
theorem OpnV.string {fuel : Nat} {t : TypeId} (h : P.underlying t = some .string) : OpnV P fuel t SStr := by
  intro H enc w base sp held cs d ps ht
  cases fuel with
  | zero => simp [DataW.trod] at ht
  | succ m =>
    unfold DataW.trod at ht
    rw [h] at ht
    split at ht <;> simp_all
    rename_i s
    exact ⟨[.str s], ⟨s, rfl, ht.1⟩, CellsV.one (by rw [Rd])⟩
theorem OpnV.slice {fuel : Nat} {t e : TypeId} {m : Nat} {S : List D → Prop} (h : P.underlying t = some (.slice e)) (hc : P.cellsOf e = m) (hm : 0 < m) (hS : ∀ ds, S ds → ds.length = m) (he : OpnV P fuel e S) : OpnV P (fuel + 1) t (SSl m S) := by
  intro H enc w base sp held cs d ps ht
  unfold DataW.trod at ht
  rw [h] at ht
  split at ht <;> try (exfalso; simp_all; done)
  · refine ⟨[.sl m []], ⟨[], rfl, Nat.zero_le _, by simp⟩, CellsV.one ?_⟩
    rw [Rd]
    exact ⟨none, 0, rfl, Nat.le_refl _, Nat.zero_le _, fun _ => rfl, fun i h => by simp at h, fun h => absurd rfl h⟩
  · rename_i e' a len cap heq
    cases heq
    dsimp only at ht
    split at ht
    · rename_i hb
      obtain ⟨hb1, hb2, hb3⟩ := hb
      obtain ⟨es, hes, ht⟩ := Option.bind_eq_some_iff.1 ht
      obtain ⟨_, hget⟩ := mapM_get hes
      have hel : ∀ i, i < len → ∃ r, S r ∧ ∃ c, CellsV w r c ∧ ∀ j u, c[j]? = some u → w.cell? (a.add (i * m + j)) = some u := by
        intro i hi
        obtain ⟨⟨d, ps⟩, hy, _⟩ := hget i i (by rw [List.getElem?_range hi])
        obtain ⟨c, hcs, hy⟩ := Option.bind_eq_some_iff.1 hy
        obtain ⟨hl, hcell⟩ := cells_some hcs
        obtain ⟨r, hr, hcv⟩ := he enc w base sp held c d ps hy
        rw [hc] at hcell
        exact ⟨r, hr, c, hcv, fun j u hu => by rw [← add_add]; exact hcell j u hu⟩
      obtain ⟨l, hl, hp⟩ := exists_list len hel
      have hlen : ∀ i (h : i < l.length), l[i].length = m := fun i hi => hS _ (hp i _ (List.getElem?_eq_getElem hi)).1
      have hcell : ∀ i (h : i < l.length) j (h2 : j < l[i].length), ∃ u, w.cell? (a.add (i * m + j)) = some u ∧ Rd (fun b => b < w.heap.size) w l[i][j] u := fun i hi j hj => by
        obtain ⟨_, c, hcv, hcl⟩ := hp i _ (List.getElem?_eq_getElem hi)
        have hj2 : j < c.length := by rw [hcv.1]; exact hj
        exact ⟨c[j], hcl j _ (List.getElem?_eq_getElem hj2), hcv.2 j hj hj2⟩
      refine ⟨[.sl m l], ⟨l, rfl, by omega, fun r hr => ?_⟩, CellsV.one ?_⟩
      · obtain ⟨j, hj⟩ := List.mem_iff_getElem?.1 hr
        exact (hp j r hj).1
      · rw [Rd]
        refine ⟨some a, cap, by rw [hl], by omega, hb3, (fun h => by cases h), hlen, fun hne => ?_⟩
        have h0 : 0 < l.length := List.length_pos_iff.2 hne
        obtain ⟨u, hu, _⟩ := hcell 0 h0 0 (by rw [hlen 0 h0]; exact hm)
        have hs := cell_spot hu
        have hsp : a.spot = none := by
          have := hs.1
          unfold Addr.add at this
          simpa using this
        have hbl : a.block < w.heap.size := by
          have := hs.2
          rw [add_none hsp] at this
          exact this
        refine ⟨a.block, a.off, by cases a; simp only at hsp; subst hsp; rfl, hbl, fun i hi j hj => ?_⟩
        have := hcell i hi j hj
        rw [add_none hsp] at this
        rw [Nat.add_assoc]
        exact this
    · cases ht
/-- The fields of a struct, from a place on. -/
def OpnFV (P : Program) (fuel : Nat) (fs : List Field) (off m : Nat) (S : List D → Prop) : Prop :=
  ∀ {H : Type} (enc : TypeId × Value → H) (w : World) (base : Nat) (sp : Nat → Bool) (held : Bool) (cs : List Value) (xs : List (DataW H × List MemPlace)), fs.mapM (fun f => DataW.trod enc P w base sp held fuel f.type ((cs.drop f.offset).take (P.cellsOf f.type))) = some xs → ∃ ds, S ds ∧ CellsV w ds ((cs.drop off).take m)
theorem OpnFV.one {fuel : Nat} {f : Field} {off m : Nat} {S : List D → Prop} (h1 : f.offset = off) (h2 : P.cellsOf f.type = m) (h : OpnV P fuel f.type S) : OpnFV P fuel [f] off m S := by
  intro H enc w base sp held cs xs hx
  obtain ⟨_, hg⟩ := mapM_get hx
  obtain ⟨⟨d, ps⟩, hy, _⟩ := hg 0 f rfl
  obtain ⟨ds, hk, hw⟩ := h enc w base sp held _ d ps hy
  rw [h1, h2] at hw
  exact ⟨ds, hk, hw⟩
theorem OpnFV.cons {fuel : Nat} {f : Field} {fs : List Field} {off m m' : Nat} {S S' : List D → Prop} (h1 : f.offset = off) (h2 : P.cellsOf f.type = m) (h : OpnV P fuel f.type S) (hr : OpnFV P fuel fs (off + m) m' S') : OpnFV P fuel (f :: fs) off (m + m') (SApp S S') := by
  intro H enc w base sp held cs xs hx
  obtain ⟨_, hg⟩ := mapM_get hx
  obtain ⟨⟨d, ps⟩, hy, _⟩ := hg 0 f rfl
  obtain ⟨ds, hk, hw⟩ := h enc w base sp held _ d ps hy
  rw [h1, h2] at hw
  rw [List.mapM_cons] at hx
  cases ha : DataW.trod enc P w base sp held fuel f.type ((cs.drop f.offset).take (P.cellsOf f.type)) with
  | none => rw [ha] at hx; simp at hx
  | some b =>
    rw [ha] at hx
    cases hl : fs.mapM (fun f => DataW.trod enc P w base sp held fuel f.type ((cs.drop f.offset).take (P.cellsOf f.type))) with
    | none => rw [hl] at hx; simp at hx
    | some r' =>
      obtain ⟨ds', hk', hw'⟩ := hr enc w base sp held cs r' hl
      refine ⟨ds ++ ds', ⟨ds, ds', rfl, hk, hk'⟩, ?_⟩
      rw [List.take_add, List.drop_drop]
      exact hw.append hw'
theorem OpnV.struct {fuel : Nat} {t : TypeId} {fs : Array Field} {m : Nat} {S : List D → Prop} (h : P.underlying t = some (.struct fs)) (hc : P.cellsOf t = m) (hf : OpnFV P fuel fs.toList 0 m S) : OpnV P (fuel + 1) t S := by
  intro H enc w base sp held cs d ps ht
  unfold DataW.trod at ht
  rw [h] at ht
  dsimp only at ht
  split at ht
  · rename_i hl
    obtain ⟨xs, hx, _⟩ := Option.map_eq_some_iff.1 ht
    obtain ⟨ds, hk, hw⟩ := hf enc w base sp held cs xs hx
    rw [List.drop_zero, ← hc, ← hl, List.take_length] at hw
    exact ⟨ds, hk, hw⟩
  · cases ht
end
theorem CellsV.d {w : World} {d : D} {v : Value} {ρ : Nat → Value} {L : Nat → Prop} (h : CellsV w [d] [v]) : G (fun b => b < w.heap.size) w ρ L (.d d) v := by
  rw [G]
  exact h.2 0 (by simp) (by simp)
theorem CellsV.agg {w : World} {ds : List D} {cs : Array Value} {ρ : Nat → Value} {L : Nat → Prop} (h : CellsV w ds cs.toList) : G (fun b => b < w.heap.size) w ρ L (.agg (ds.map .d)) (.agg cs) := by
  rw [G]
  refine ⟨cs.toList, by simp, by simpa using h.1, fun i h1 h2 => ?_⟩
  rw [List.getElem_map, G]
  exact h.2 i (by simpa using h1) h2
theorem More.below {w w' : World} (h : More w w') : Below w.heap.size w w' := ⟨h.os, h.tape, h.output, h.size, h.block⟩
/-- The arguments, one by one. -/
theorem Gs.nil' {B : Nat → Prop} {w : World} {ρ : Nat → Value} {L : Nat → Prop} : Gs B w ρ L [] [] := ⟨rfl, fun i h => by simp at h⟩
theorem Gs.cons' {B : Nat → Prop} {w : World} {ρ : Nat → Value} {L : Nat → Prop} {x : V} {v : Value} {xs : List V} {vs : List Value} (h : G B w ρ L x v) (hs : Gs B w ρ L xs vs) : Gs B w ρ L (x :: xs) (v :: vs) := by
  refine ⟨by simp [hs.1], fun i h1 h2 => ?_⟩
  match i with
  | 0 => exact h
  | i + 1 => exact hs.2 i (by simpa using h1) (by simpa using h2)
/-- A pure function that says yes, as a law's walk wants it. -/
theorem PureOk.law {P : Program} {f : FuncId} {args : List V} {p : Prop} {W : World} {vs : List Value} (h : PureOk P f args p (.d (.bool true))) (hp : p) (hgw : GW W) (ha : Gs (fun b => b < W.heap.size) W (fun _ => .int .i64 0) (fun _ => False) args vs) :
    Calls P f vs.toArray W fun e W' => e = .returned (.bool true) ∧ Below W.heap.size W W' :=
  (h W _ _ _ vs (fun _ h => h) hgw (fun _ => rfl) ha hp).mono fun e W' ⟨v, he, hm, hv⟩ => by
    rw [G, Rd] at hv
    subst hv
    exact ⟨he, hm.below⟩
/-- The variable holds a number in every world that is shaped as the program's. -/
theorem GW.of_shaped {P : Program} {w : World} (hg : gIx < P.globals.size) {zero : Array Value} {t : TypeId} (hz : (((begin P (fun _ _ => 0) default).world.heap[gIx]?).bind Obj.row?) = some (zero, t)) (h1 : zero.size = 1)
    (hb : P.buildable t = true) (hc : P.cellTypes P.depth t = some [t]) (hu : P.underlying t = some (.int .i64)) (h : w.ShapedOpen P) : GW w := by
  obtain ⟨cs, e1, e2, e3⟩ := h.1 gIx zero t hg hz
  obtain ⟨ts, k1, _, k2⟩ := e3 hb
  rw [hc] at k1
  obtain rfl : [t] = ts := Option.some.inj k1
  have hlt : 0 < cs.size := by omega
  obtain ⟨u, m1, m2⟩ := k2 0 cs[0] (Array.getElem?_eq_getElem hlt)
  obtain rfl : t = u := by simpa using m1
  unfold Cell.ok at m2
  rw [hu] at m2
  have hv : ∃ n, cs[0] = .int .i64 n := by
    generalize cs[0] = v at m2
    cases v <;> simp at m2
    exact ⟨_, by rw [m2.1]⟩
  obtain ⟨n, hv⟩ := hv
  refine ⟨n, ?_⟩
  unfold GWm World.cell?
  rw [e1]
  simp only [Option.isSome_none, Bool.false_eq_true, if_false]
  rw [Array.getElem?_eq_getElem hlt, hv]
section
variable {H : Type} {enc : TypeId × Value → H}
/-- As the kit's 'returnsInHanded_of_change_and'; the world's shape is handed on. -/
theorem returnsInHanded_of_change_shaped {a : Assume} {C : Checked} {os : Os} {f : FuncId} {fn : Func} {s : ChangeSpec} {conds : List PathCond} {apart fresh handsOn again : Bool} {X : World → Array Value → Prop}
    (hX : ∀ (w w' : World) (args : Array Value), w.heap = w'.heap → X w args → X w' args)
    (own : ownKnob C.prog.godebug = none) (started : os.Started) (noInit : C.prog.inits.idxOf? f = none) (hfn : C.prog.funcs[f]? = some fn)
    (witness : ∃ (w : World) (tape : Tape) (i : Input), w.os = os ∧ (w.forCall tape i).Shaped C.prog ∧ i.vars = [] ∧ Input.okWide C.prog (w.forCall tape i) .any w.heap.size f i ∧
      ((s.pre enc C.prog fn conds apart (w.forCall tape i).memory i.args ∧ X (w.forCall tape i).memory i.args) ∧ sizedMet enc C.prog fn (OpenSpec.ofChange s) apart (w.forCall tape i).memory i.args) ∧ a.holds C.prog (lone (Frame.enter C.prog f i.args .normal) [] (w.forCall tape i)))
    (contract : ∀ (W : World) (base : Nat) (args : Array Value) (ds gs : List (DataW H)) (before : List MemPlace), W.ShapedOpen C.prog →
      (∀ (j : Nat) t v, fn.params[j]? = some t → args[j]? = some v → Value.okWide C.prog W .any base t v) →
      DataW.Whole enc C.prog fn.params.toList s.vars apart W args.toList ds gs before →
      conds.all (PathCond.test C.prog ⟨fn.params.toList, ds, s.plain.varTypes C.prog, gs⟩) = true →
      (DataW.weightsEach C.prog (fn.params.toList ++ s.plain.varTypes C.prog) (ds ++ gs)).all (· ≤ reachBytes) = true → X W args →
      a.holds C.prog (lone (Frame.enter C.prog f args .normal) [] W) →
      Calls C.prog f args W fun e W' => ∃ v, e = .returned v ∧ s.post enc C.prog fn apart fresh handsOn again W args v W') :
    ReturnsInHanded a C os f .any (fun w args => (s.pre enc C.prog fn conds apart w args ∧ X w args) ∧ sizedMet enc C.prog fn (OpenSpec.ofChange s) apart w args) (s.post enc C.prog fn apart fresh handsOn again) := by
  refine returnsInHanded_of_calls own started noInit witness ?_
  intro w tape i _ hsh _ hok hpre hholds
  obtain ⟨_, _, _, fn', hfn', _, _, _, _, hval⟩ := hok
  have e : fn' = fn := Option.some.inj (hfn'.symm.trans hfn)
  subst e
  obtain ⟨⟨⟨ds, gs, before, hw, hc⟩, hx⟩, hz⟩ := hpre
  have hw' := DataW.Whole.of_heap (w' := w.forCall tape i) (by rfl) hw
  refine (contract (w.forCall tape i) w.heap.size i.args ds gs before hsh hval hw' hc (hz.weights hw) (hX _ _ _ (by rfl) hx) hholds).mono fun e W' ⟨v, he, hp⟩ => ?_
  subst he
  exact ChangeSpec.post_blind hp
end
end Go.Proofs.YtgnnakibcjonbaaGreatDoor.VE

/- Chapter 16: a law's tables, read as data, are lists of layouts. -/
namespace Go.Proofs.YtgnnakibcjonbaaGreatDoor.VE
open Go Go.RowKit
set_option linter.unusedVariables false
theorem exists_map {α : Type} {enc : α → List D} {S : List D → Prop} (h : ∀ r, S r → ∃ a, r = enc a) : ∀ rows : List (List D), (∀ r ∈ rows, S r) → ∃ l : List α, rows = l.map enc
  | [], _ => ⟨[], rfl⟩
  | r :: rest, hs => by
    obtain ⟨a, ha⟩ := h r (hs r (by simp))
    obtain ⟨l, hl⟩ := exists_map h rest fun r hr => hs r (by simp [hr])
    exact ⟨a :: l, by rw [List.map_cons, ← ha, ← hl]⟩
abbrev ShCh : List D → Prop := SApp (SInt .i64) (SApp (SInt .i64) SStr)
abbrev ShFd : List D → Prop := SApp SStr (SApp (SInt .i64) (SApp (SInt .i64) (SApp SBool (SApp SBool (SApp (SInt .i64) (SApp SStr (SApp (SInt .i64) (SSl 3 ShCh))))))))
abbrev ShLy : List D → Prop := SApp SStr (SApp (SSl 9 ShFd) SBool)
theorem ch_of (r : List D) (h : ShCh r) : ∃ c, r = encCh c := by
  obtain ⟨_, _, rfl, ⟨a, rfl, _⟩, _, _, rfl, ⟨b, rfl, _⟩, c, rfl, _⟩ := h
  exact ⟨⟨a, b, c⟩, rfl⟩
theorem fd_of (r : List D) (h : ShFd r) : ∃ c, r = encFd c := by
  obtain ⟨_, _, rfl, ⟨a, rfl, _⟩, _, _, rfl, ⟨b, rfl, _⟩, _, _, rfl, ⟨c, rfl, _⟩, _, _, rfl, ⟨d, rfl⟩, _, _, rfl, ⟨e, rfl⟩, _, _, rfl, ⟨f, rfl, _⟩, _, _, rfl, ⟨g, rfl, _⟩, _, _, rfl, ⟨i, rfl, _⟩, rows, rfl, _, hs⟩ := h
  obtain ⟨l, rfl⟩ := exists_map ch_of rows hs
  exact ⟨⟨a, b, c, d, e, f, g, i, l⟩, rfl⟩
theorem ly_of (r : List D) (h : ShLy r) : ∃ c, r = encLy c := by
  obtain ⟨_, _, rfl, ⟨a, rfl, _⟩, _, _, rfl, ⟨rows, rfl, _, hs⟩, e, rfl⟩ := h
  obtain ⟨l, rfl⟩ := exists_map fd_of rows hs
  exact ⟨⟨a, l, e⟩, rfl⟩
theorem lys_of {rows : List (List D)} (hs : ∀ r ∈ rows, ShLy r) : ∃ l : List Ly, rows = l.map encLy := exists_map ly_of rows hs
end Go.Proofs.YtgnnakibcjonbaaGreatDoor.VE
