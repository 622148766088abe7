/-
Facts of the program, printed by a program of mine: walks.
No conditions.
-/
import Derived.Test.YtbmibhjjogobhaaGreatQFactsT
import Derived.Test.YtbmibhjjogobhaaGreatQEngW
set_option linter.unusedSectionVars false
set_option linter.unusedSimpArgs false
set_option linter.unusedVariables false
namespace Go.Proofs.YtbmibhjjogobhaaGreat
open Go Go.Eng
set_option maxRecDepth 20000
variable [zB]
theorem zNR:Ent 10 Tryz.f10 pl0 [.tmp 4] 15:=ent tb0 Tryz.func10 Tryz.results10 Tryz.ntmps10 (by kernel_rfl)
theorem zAp:Ent 171 Tryz.f171 pl0 [.tmp 2] 8:=ent tb0 Tryz.func171 Tryz.results171 Tryz.ntmps171 (by kernel_rfl)
theorem zEz:Ent 178 Tryz.f178 pl0 [.tmp 2] 8:=ent tb0 Tryz.func178 Tryz.results178 Tryz.ntmps178 (by kernel_rfl)
theorem zDX:Ent 179 Tryz.f179 pl0 [.tmp 2] 8:=ent tb0 Tryz.func179 Tryz.results179 Tryz.ntmps179 (by kernel_rfl)
theorem zB1:Ent 180 Tryz.f180 pl0 [.tmp 2] 8:=ent tb0 Tryz.func180 Tryz.results180 Tryz.ntmps180 (by kernel_rfl)
theorem zE0:Ent 181 Tryz.f181 pl0 [.tmp 2] 8:=ent tb0 Tryz.func181 Tryz.results181 Tryz.ntmps181 (by kernel_rfl)
theorem zFa:Ent 182 Tryz.f182 pl0 [.tmp 2] 8:=ent tb0 Tryz.func182 Tryz.results182 Tryz.ntmps182 (by kernel_rfl)
theorem zDD:Ent 195 Tryz.f195 pl0 [.tmp 2] 8:=ent tb0 Tryz.func195 Tryz.results195 Tryz.ntmps195 (by kernel_rfl)
theorem zCJ:Ent 214 Tryz.f214 pl0 [.tmp 2] 5:=ent tb0 Tryz.func214 Tryz.results214 Tryz.ntmps214 (by kernel_rfl)
theorem zCu:Ent 259 Tryz.f259 pl0 [.tmp 4] 30:=ent tb0 Tryz.func259 Tryz.results259 Tryz.ntmps259 (by kernel_rfl)
theorem zPB:Ent 277 Tryz.f277 pl0 [.cell 0 314] 26:=ent tb0 Tryz.func277 Tryz.results277 Tryz.ntmps277 (by kernel_rfl)
theorem zRx:Ent 299 Tryz.f299 pl0 [.tmp 4] 8:=ent tb0 Tryz.func299 Tryz.results299 Tryz.ntmps299 (by kernel_rfl)
end Go.Proofs.YtbmibhjjogobhaaGreat
namespace Go.Proofs.YtbmibhjjogobhaaGreat
open Go Go.Eng
set_option maxRecDepth 20000
variable [zB]
theorem zP0:Ent 8 Tryz.f8 pl0 [.tmp 2] 11:=ent tb0 Tryz.func8 Tryz.results8 Tryz.ntmps8 (by kernel_rfl)
def zVr (n:Nat):zL:=
 match n with
 | 6=>.one 0 <| .one 1 <| .one 2 <| .one 3 <| .one 4 <| .one 5 <| .one 6 <| .alt 7 [] (.done) <| .none
 | _=>.done
def zEx (n:Nat):zL:=
 match n with
 | 5=>.one 0 <| .one 1 <| .one 2 <| .one 3 <| .one 4 <| .one 5 <| .one 6 <| .one 7 <| .one 8 <| .one 9 <| .one 10 <| .one 11 <| .one 12 <| .one 13 <| .one 14 <| .one 15 <| .one 16 <| .done
 | _=>.done
@[go_sem] theorem zVk:zEx 5=(.one 0 <| .one 1 <| .one 2 <| .one 3 <| .one 4 <| .one 5 <| .one 6 <| .one 7 <| .one 8 <| .one 9 <| .one 10 <| .one 11 <| .one 12 <| .one 13 <| .one 14 <| .one 15 <| .one 16 <| .done):=id rfl
def zJp (n:Nat):List Row:=
 match n with
 | 5=>[⟨2048,8,0,0⟩,⟨4096,2048,1,1⟩,⟨8192,1,0,0⟩,⟨16384,16,0,0⟩,⟨32768,24576,12,1⟩,⟨65536,32768,16,1⟩,⟨131072,65536,32,1⟩,⟨262144,131072,64,2⟩,⟨524288,266240,130,1⟩,⟨1048576,1,0,0⟩,⟨2097152,16,0,0⟩,⟨4194304,3145728,1536,1⟩,⟨8388608,4194304,2048,1⟩,⟨16777216,8388608,4096,1⟩,⟨33554432,16777216,8192,2⟩,⟨67108864,34078720,16640,1⟩,⟨8,67108864,65535,0⟩]
 | _=>[]
theorem zJi:Ent 20 Tryz.f20 zEx [.tmp 2] 28:=ent zJp Tryz.func20 Tryz.results20 Tryz.ntmps20 (by kernel_rfl)
theorem zQ2:Ent 21 Tryz.f21 pl0 [.tmp 2] 19:=ent tb0 Tryz.func21 Tryz.results21 Tryz.ntmps21 (by kernel_rfl)
def xT (n:Nat):zL:=
 match n with
 | 3=>.one 0 <| .one 1 <| .one 2 <| .one 3 <| .one 4 <| .done
 | 5=>.one 0 <| .one 1 <| .one 2 <| .one 3 <| .one 4 <| .done
 | 11=>.one 0 <| .one 1 <| .one 2 <| .one 3 <| .one 4 <| .one 5 <| .one 6 <| .alt 7 [] (.one 8 <| .done) <| .none
 | 12=>.one 0 <| .one 1 <| .one 2 <| .one 3 <| .one 4 <| .one 5 <| .one 6 <| .alt 7 [] (.one 8 <| .done) <| .none
 | 20=>.one 0 <| .one 1 <| .one 2 <| .one 3 <| .one 4 <| .one 5 <| .one 6 <| .one 7 <| .one 8 <| .one 9 <| .one 10 <| .one 11 <| .one 12 <| .alt 13 [] (.one 14 <| .done) <| .none
 | 27=>.one 0 <| .one 1 <| .one 2 <| .one 3 <| .one 4 <| .one 5 <| .one 6 <| .alt 7 [] (.one 8 <| .done) <| .none
 | 29=>.one 0 <| .one 1 <| .one 2 <| .one 3 <| .one 4 <| .one 5 <| .one 6 <| .alt 7 [] (.one 8 <| .done) <| .none
 | _=>.done
@[go_sem] theorem zdM:xT 3=(.one 0 <| .one 1 <| .one 2 <| .one 3 <| .one 4 <| .done):=id rfl
@[go_sem] theorem zcM:xT 5=(.one 0 <| .one 1 <| .one 2 <| .one 3 <| .one 4 <| .done):=id rfl
@[go_sem] theorem zaj:xT 11=(.one 0 <| .one 1 <| .one 2 <| .one 3 <| .one 4 <| .one 5 <| .one 6 <| .alt 7 [] (.one 8 <| .done) <| .none):=id rfl
@[go_sem] theorem zc6:xT 12=(.one 0 <| .one 1 <| .one 2 <| .one 3 <| .one 4 <| .one 5 <| .one 6 <| .alt 7 [] (.one 8 <| .done) <| .none):=id rfl
@[go_sem] theorem zXO:xT 20=(.one 0 <| .one 1 <| .one 2 <| .one 3 <| .one 4 <| .one 5 <| .one 6 <| .one 7 <| .one 8 <| .one 9 <| .one 10 <| .one 11 <| .one 12 <| .alt 13 [] (.one 14 <| .done) <| .none):=id rfl
@[go_sem] theorem zZZ:xT 27=(.one 0 <| .one 1 <| .one 2 <| .one 3 <| .one 4 <| .one 5 <| .one 6 <| .alt 7 [] (.one 8 <| .done) <| .none):=id rfl
@[go_sem] theorem zbR:xT 29=(.one 0 <| .one 1 <| .one 2 <| .one 3 <| .one 4 <| .one 5 <| .one 6 <| .alt 7 [] (.one 8 <| .done) <| .none):=id rfl
def zJx (n:Nat):List Row:=
 match n with
 | 3=>[⟨262144,2,0,1⟩,⟨524288,262144,1,2⟩,⟨1048576,524288,2,1⟩,⟨16,0,0,0⟩,⟨32,1048576,15,0⟩]
 | 5=>[⟨16777216,2,0,1⟩,⟨33554432,16777216,1,2⟩,⟨67108864,33554432,2,1⟩,⟨16,0,0,0⟩,⟨32,67108864,15,0⟩]
 | 11=>[⟨140737488355328,64,0,0⟩,⟨281474976710656,256,0,1⟩,⟨562949953421312,281474976710656,2,1⟩,⟨1125899906842624,562949953421312,4,2⟩,⟨2251799813685248,256,0,1⟩,⟨4503599627370496,2251799813685248,16,1⟩,⟨9007199254740992,4503599627370496,32,1⟩,⟨18014398509481984,10273836649938944,73,5⟩,⟨64,18014398509481984,255,0⟩]
 | 12=>[⟨36028797018963968,64,0,0⟩,⟨72057594037927936,256,0,1⟩,⟨144115188075855872,72057594037927936,2,1⟩,⟨288230376151711744,144115188075855872,4,2⟩,⟨576460752303423488,256,0,1⟩,⟨1152921504606846976,576460752303423488,16,1⟩,⟨2305843009213693952,1152921504606846976,32,1⟩,⟨4611686018427387904,2630102182384369664,73,5⟩,⟨64,4611686018427387904,255,0⟩]
 | 20=>[⟨38685626227668133590597632,64,0,0⟩,⟨77371252455336267181195264,2,0,1⟩,⟨154742504910672534362390528,77371252455336267181195264,2,2⟩,⟨309485009821345068724781056,1024,0,0⟩,⟨618970019642690137449562112,464227514732017603087171584,12,1⟩,⟨1237940039285380274899124224,618970019642690137449562112,16,1⟩,⟨2475880078570760549798248448,1237940039285380274899124224,32,2⟩,⟨4951760157141521099596496896,2,0,1⟩,⟨9903520314283042199192993792,4951760157141521099596496896,128,2⟩,⟨19807040628566084398385987584,1024,0,0⟩,⟨39614081257132168796771975168,29710560942849126597578981376,768,1⟩,⟨79228162514264337593543950336,39614081257132168796771975168,1024,1⟩,⟨158456325028528675187087900672,79228162514264337593543950336,2048,1⟩,⟨316912650057057350374175801344,160970890733327103870476746752,4161,5⟩,⟨64,316912650057057350374175801344,16383,0⟩]
 | 27=>[⟨2658455991569831745807614120560689152,64,0,0⟩,⟨5316911983139663491615228241121378304,4096,0,1⟩,⟨10633823966279326983230456482242756608,5316911983139663491615228241121378304,2,1⟩,⟨21267647932558653966460912964485513216,10633823966279326983230456482242756608,4,2⟩,⟨42535295865117307932921825928971026432,4096,0,1⟩,⟨85070591730234615865843651857942052864,42535295865117307932921825928971026432,16,1⟩,⟨170141183460469231731687303715884105728,85070591730234615865843651857942052864,32,1⟩,⟨340282366920938463463374607431768211456,194067287384597717443955830800930308096,73,5⟩,⟨64,340282366920938463463374607431768211456,255,0⟩]
 | 29=>[⟨5444517870735015415413993718908291383296,64,0,0⟩,⟨10889035741470030830827987437816582766592,4096,0,1⟩,⟨21778071482940061661655974875633165533184,10889035741470030830827987437816582766592,2,1⟩,⟨43556142965880123323311949751266331066368,21778071482940061661655974875633165533184,4,2⟩,⟨87112285931760246646623899502532662132736,4096,0,1⟩,⟨174224571863520493293247799005065324265472,87112285931760246646623899502532662132736,16,1⟩,⟨348449143727040986586495598010130648530944,174224571863520493293247799005065324265472,32,1⟩,⟨696898287454081973172991196020261297061888,397449804563656125325221541480305270980608,73,5⟩,⟨64,696898287454081973172991196020261297061888,255,0⟩]
 | _=>[]
theorem zG9:Ent 36 Tryz.f36 xT [.tmp 2,.tmp 3] 170:=ent zJx Tryz.func36 Tryz.results36 Tryz.ntmps36 (by kernel_rfl)
theorem zJW:Ent 40 Tryz.f40 pl0 [.tmp 4] 38:=ent tb0 Tryz.func40 Tryz.results40 Tryz.ntmps40 (by kernel_rfl)
theorem zNm:Ent 41 Tryz.f41 pl0 [.tmp 6] 32:=ent tb0 Tryz.func41 Tryz.results41 Tryz.ntmps41 (by kernel_rfl)
def zEL (n:Nat):zL:=
 match n with
 | 6=>.one 0 <| .one 1 <| .one 2 <| .one 3 <| .one 4 <| .one 5 <| .one 6 <| .one 7 <| .one 8 <| .one 9 <| .one 10 <| .one 11 <| .one 12 <| .one 13 <| .one 14 <| .one 15 <| .one 16 <| .done
 | _=>.done
@[go_sem] theorem zUb:zEL 6=(.one 0 <| .one 1 <| .one 2 <| .one 3 <| .one 4 <| .one 5 <| .one 6 <| .one 7 <| .one 8 <| .one 9 <| .one 10 <| .one 11 <| .one 12 <| .one 13 <| .one 14 <| .one 15 <| .one 16 <| .done):=id rfl
def zKm (n:Nat):List Row:=
 match n with
 | 6=>[⟨4096,16,0,0⟩,⟨8192,4096,1,1⟩,⟨16384,1,0,0⟩,⟨32768,32,0,0⟩,⟨65536,49152,12,1⟩,⟨131072,65536,16,1⟩,⟨262144,131072,32,1⟩,⟨524288,262144,64,2⟩,⟨1048576,532480,130,1⟩,⟨2097152,1,0,0⟩,⟨4194304,32,0,0⟩,⟨8388608,6291456,1536,1⟩,⟨16777216,8388608,2048,1⟩,⟨33554432,16777216,4096,1⟩,⟨67108864,33554432,8192,2⟩,⟨134217728,68157440,16640,1⟩,⟨16,134217728,65535,0⟩]
 | _=>[]
theorem zNT:Ent 43 Tryz.f43 zEL [.tmp 2] 38:=ent zKm Tryz.func43 Tryz.results43 Tryz.ntmps43 (by kernel_rfl)
end Go.Proofs.YtbmibhjjogobhaaGreat
namespace Go.Proofs.YtbmibhjjogobhaaGreat
open Go Go.Eng
set_option maxRecDepth 20000
variable [zB]
theorem zMf:Ent 52 Tryz.f52 pl0 [.cell 2 32,.tmp 3] 54:=ent tb0 Tryz.func52 Tryz.results52 Tryz.ntmps52 (by kernel_rfl)
theorem zLR:Ent 55 Tryz.f55 pl0 [.tmp 2] 6:=ent tb0 Tryz.func55 Tryz.results55 Tryz.ntmps55 (by kernel_rfl)
theorem zLQ:Ent 56 Tryz.f56 pl0 [.tmp 2] 28:=ent tb0 Tryz.func56 Tryz.results56 Tryz.ntmps56 (by kernel_rfl)
def zSK (n:Nat):zL:=
 match n with
 | 5=>.one 0 <| .one 1 <| .one 2 <| .one 3 <| .one 4 <| .one 5 <| .one 6 <| .one 7 <| .one 8 <| .one 9 <| .one 10 <| .one 11 <| .one 12 <| .one 13 <| .one 14 <| .one 15 <| .alt 16 [] (.one 17 <| .done) <| .none
 | _=>.done
def WC (n:Nat):zL:=
 match n with
 | 3=>.one 0 <| .one 1 <| .one 2 <| .one 3 <| .one 4 <| .done
 | 5=>.one 0 <| .one 1 <| .one 2 <| .one 3 <| .one 4 <| .done
 | 6=>.one 0 <| .one 1 <| .one 2 <| .one 3 <| .one 4 <| .one 5 <| .one 6 <| .one 7 <| .one 9 <| .alt 8 [9] (.alt 10 [] (.one 11 <| .done) <| .none) <| .none
 | 8=>.one 0 <| .one 1 <| .one 2 <| .one 3 <| .alt 4 [] (.done) <| .none
 | _=>.done
@[go_sem] theorem zcE:WC 3=(.one 0 <| .one 1 <| .one 2 <| .one 3 <| .one 4 <| .done):=id rfl
@[go_sem] theorem zYg:WC 5=(.one 0 <| .one 1 <| .one 2 <| .one 3 <| .one 4 <| .done):=id rfl
@[go_sem] theorem zXq:WC 6=(.one 0 <| .one 1 <| .one 2 <| .one 3 <| .one 4 <| .one 5 <| .one 6 <| .one 7 <| .one 9 <| .alt 8 [9] (.alt 10 [] (.one 11 <| .done) <| .none) <| .none):=id rfl
@[go_sem] theorem zUV:WC 8=(.one 0 <| .one 1 <| .one 2 <| .one 3 <| .alt 4 [] (.done) <| .none):=id rfl
def zJZ (n:Nat):List Row:=
 match n with
 | 3=>[⟨1024,2,0,1⟩,⟨2048,1024,1,2⟩,⟨4096,2048,2,1⟩,⟨16,0,0,0⟩,⟨32,4096,15,0⟩]
 | 5=>[⟨32768,2,0,1⟩,⟨65536,32768,1,2⟩,⟨131072,65536,2,1⟩,⟨16,0,0,0⟩,⟨32,131072,15,0⟩]
 | 6=>[⟨262144,16,0,0⟩,⟨524288,32,0,0⟩,⟨1048576,524288,2,2⟩,⟨2097152,2,0,1⟩,⟨4194304,2097152,8,2⟩,⟨8388608,4194304,16,1⟩,⟨16777216,8388608,32,2⟩,⟨33554432,18087936,69,0⟩,⟨67108864,33554432,128,5⟩,⟨134217728,2,0,2⟩,⟨268435456,201326592,768,5⟩,⟨64,268435456,2047,0⟩]
 | 8=>[⟨17179869184,64,0,0⟩,⟨34359738368,17179869184,1,1⟩,⟨68719476736,64,0,0⟩,⟨137438953472,68719476736,4,2⟩,⟨274877906944,171798691840,10,5⟩]
 | _=>[]
theorem zAg:Ent 69 Tryz.f69 WC [.tmp 2,.tmp 3] 40:=ent zJZ Tryz.func69 Tryz.results69 Tryz.ntmps69 (by kernel_rfl)
theorem zJo:Ent 71 Tryz.f71 pl0 [.tmp 2] 23:=ent tb0 Tryz.func71 Tryz.results71 Tryz.ntmps71 (by kernel_rfl)
theorem Wy:Ent 72 Tryz.f72 pl0 [.tmp 6] 18:=ent tb0 Tryz.func72 Tryz.results72 Tryz.ntmps72 (by kernel_rfl)
theorem zHQ:Ent 73 Tryz.f73 pl0 [.tmp 6] 33:=ent tb0 Tryz.func73 Tryz.results73 Tryz.ntmps73 (by kernel_rfl)
theorem zOz:Ent 74 Tryz.f74 pl0 [.tmp 2] 5:=ent tb0 Tryz.func74 Tryz.results74 Tryz.ntmps74 (by kernel_rfl)
theorem zO2:Ent 77 Tryz.f77 pl0 [.tmp 4] 33:=ent tb0 Tryz.func77 Tryz.results77 Tryz.ntmps77 (by kernel_rfl)
def zFZ (n:Nat):zL:=
 match n with
 | 8=>.one 0 <| .one 1 <| .one 2 <| .one 3 <| .one 4 <| .one 5 <| .one 6 <| .one 7 <| .one 8 <| .done
 | _=>.done
@[go_sem] theorem zU4:zFZ 8=(.one 0 <| .one 1 <| .one 2 <| .one 3 <| .one 4 <| .one 5 <| .one 6 <| .one 7 <| .one 8 <| .done):=id rfl
def zHK (n:Nat):List Row:=
 match n with
 | 8=>[⟨8589934592,1,0,0⟩,⟨17179869184,2048,0,0⟩,⟨34359738368,25769803776,3,1⟩,⟨68719476736,34359738368,4,1⟩,⟨137438953472,68719476736,8,2⟩,⟨274877906944,8,0,1⟩,⟨549755813888,274877906944,32,2⟩,⟨1099511627776,687194767360,80,0⟩,⟨4096,1099511627776,255,0⟩]
 | _=>[]
theorem zIp:Ent 78 Tryz.f78 zFZ [.tmp 4] 77:=ent zHK Tryz.func78 Tryz.results78 Tryz.ntmps78 (by kernel_rfl)
theorem kY:Ent 79 Tryz.f79 pl0 [.cell 2 93] 93:=ent tb0 Tryz.func79 Tryz.results79 Tryz.ntmps79 (by kernel_rfl)
theorem zIV:Ent 80 Tryz.f80 pl0 [.cell 2 114] 38:=ent tb0 Tryz.func80 Tryz.results80 Tryz.ntmps80 (by kernel_rfl)
def zBK (n:Nat):zL:=
 match n with
 | 5=>.one 0 <| .one 1 <| .one 2 <| .one 3 <| .one 4 <| .one 5 <| .one 6 <| .done
 | _=>.done
@[go_sem] theorem zXy:zBK 5=(.one 0 <| .one 1 <| .one 2 <| .one 3 <| .one 4 <| .one 5 <| .one 6 <| .done):=id rfl
def zLM (n:Nat):List Row:=
 match n with
 | 5=>[⟨8192,1,0,0⟩,⟨16384,64,0,0⟩,⟨32768,24576,3,1⟩,⟨65536,32768,4,2⟩,⟨131072,8,0,2⟩,⟨262144,196608,24,0⟩,⟨524288,262144,32,1⟩]
 | _=>[]
theorem zSA:Ent 81 Tryz.f81 zBK [.tmp 4] 23:=ent zLM Tryz.func81 Tryz.results81 Tryz.ntmps81 (by kernel_rfl)
end Go.Proofs.YtbmibhjjogobhaaGreat
namespace Go.Proofs.YtbmibhjjogobhaaGreat
open Go Go.Eng
set_option maxRecDepth 20000
variable [zB]
def GK (n:Nat):zL:=
 match n with
 | 10=>.one 0 <| .one 1 <| .one 2 <| .one 3 <| .one 4 <| .one 5 <| .one 6 <| .one 7 <| .one 8 <| .one 9 <| .done
 | 12=>.one 0 <| .one 1 <| .one 2 <| .one 3 <| .one 4 <| .one 5 <| .one 6 <| .one 7 <| .one 8 <| .one 9 <| .done
 | _=>.done
@[go_sem] theorem zVv:GK 10=(.one 0 <| .one 1 <| .one 2 <| .one 3 <| .one 4 <| .one 5 <| .one 6 <| .one 7 <| .one 8 <| .one 9 <| .done):=id rfl
@[go_sem] theorem zbk:GK 12=(.one 0 <| .one 1 <| .one 2 <| .one 3 <| .one 4 <| .one 5 <| .one 6 <| .one 7 <| .one 8 <| .one 9 <| .done):=id rfl
def zMe (n:Nat):List Row:=
 match n with
 | 10=>[⟨4294967296,32,0,0⟩,⟨8589934592,4,0,1⟩,⟨17179869184,12884901888,3,1⟩,⟨34359738368,17179869184,4,2⟩,⟨68719476736,32,0,0⟩,⟨137438953472,8,0,1⟩,⟨274877906944,206158430208,48,1⟩,⟨549755813888,274877906944,64,2⟩,⟨1099511627776,584115552256,136,1⟩,⟨2147483648,1099511627776,256,0⟩]
 | 12=>[⟨4398046511104,32,0,0⟩,⟨8796093022208,4,0,1⟩,⟨17592186044416,13194139533312,3,1⟩,⟨35184372088832,17592186044416,4,2⟩,⟨70368744177664,32,0,0⟩,⟨140737488355328,8,0,1⟩,⟨281474976710656,211106232532992,48,1⟩,⟨562949953421312,281474976710656,64,2⟩,⟨1125899906842624,598134325510144,136,1⟩,⟨2199023255552,1125899906842624,256,0⟩]
 | _=>[]
theorem zHj:Ent 89 Tryz.f89 GK [.tmp 4] 51:=ent zMe Tryz.func89 Tryz.results89 Tryz.ntmps89 (by kernel_rfl)
def Zs (n:Nat):zL:=
 match n with
 | 7=>.one 0 <| .one 1 <| .one 2 <| .one 3 <| .one 4 <| .one 5 <| .alt 6 [5,3] (.alt 7 [5] (.alt 8 [] (.done) <| .none) <| .none) <| .none
 | 11=>.one 0 <| .one 1 <| .alt 2 [1] (.alt 3 [1] (.alt 4 [] (.done) <| .none) <| .none) <| .none
 | _=>.done
@[go_sem] theorem zUl:Zs 7=(.one 0 <| .one 1 <| .one 2 <| .one 3 <| .one 4 <| .one 5 <| .alt 6 [5,3] (.alt 7 [5] (.alt 8 [] (.done) <| .none) <| .none) <| .none):=id rfl
@[go_sem] theorem zYx:Zs 11=(.one 0 <| .one 1 <| .alt 2 [1] (.alt 3 [1] (.alt 4 [] (.done) <| .none) <| .none) <| .none):=id rfl
def JT (n:Nat):List Row:=
 match n with
 | 7=>[⟨1073741824,1024,0,0⟩,⟨2147483648,1024,0,0⟩,⟨4294967296,2147483648,2,1⟩,⟨8589934592,512,0,2⟩,⟨17179869184,12884901888,12,1⟩,⟨34359738368,256,0,2⟩,⟨0,1073741888,1,4⟩,⟨0,17179869312,95,4⟩,⟨0,34359738624,255,4⟩]
 | 11=>[⟨1125899906842624,4,0,0⟩,⟨2251799813685248,256,0,2⟩,⟨0,64,0,4⟩,⟨0,1125899906842752,5,4⟩,⟨0,2251799813685504,15,4⟩]
 | _=>[]
theorem zFQ:Ent 102 Tryz.f102 pl0 [.tmp 6,.tmp 7] 45:=ent tb0 Tryz.func102 Tryz.results102 Tryz.ntmps102 (by kernel_rfl)
def Yx (n:Nat):zL:=
 match n with
 | 7=>.one 2 <| .one 4 <| .one 0 <| .one 1 <| .alt 3 [1,0] (.alt 5 [1,0] (.one 6 <| .one 7 <| .alt 8 [] (.one 9 <| .alt 10 [] (.done) <| .none) <| .none) <| .none) <| .none
 | 8=>.one 2 <| .one 0 <| .one 1 <| .alt 3 [1,0] (.one 4 <| .one 5 <| .alt 6 [] (.one 7 <| .alt 8 [] (.done) <| .none) <| .none) <| .none
 | 12=>.one 2 <| .one 0 <| .one 1 <| .alt 3 [1,0] (.one 4 <| .alt 5 [] (.one 6 <| .alt 7 [] (.done) <| .none) <| .none) <| .none
 | 16=>.one 2 <| .one 0 <| .one 1 <| .alt 3 [1,0] (.one 4 <| .alt 5 [] (.one 6 <| .alt 7 [] (.done) <| .none) <| .none) <| .none
 | _=>.done
@[go_sem] theorem zaM:Yx 7=(.one 2 <| .one 4 <| .one 0 <| .one 1 <| .alt 3 [1,0] (.alt 5 [1,0] (.one 6 <| .one 7 <| .alt 8 [] (.one 9 <| .alt 10 [] (.done) <| .none) <| .none) <| .none) <| .none):=id rfl
@[go_sem] theorem zXE:Yx 8=(.one 2 <| .one 0 <| .one 1 <| .alt 3 [1,0] (.one 4 <| .one 5 <| .alt 6 [] (.one 7 <| .alt 8 [] (.done) <| .none) <| .none) <| .none):=id rfl
@[go_sem] theorem zUX:Yx 12=(.one 2 <| .one 0 <| .one 1 <| .alt 3 [1,0] (.one 4 <| .alt 5 [] (.one 6 <| .alt 7 [] (.done) <| .none) <| .none) <| .none):=id rfl
@[go_sem] theorem zSJ:Yx 16=(.one 2 <| .one 0 <| .one 1 <| .alt 3 [1,0] (.one 4 <| .alt 5 [] (.one 6 <| .alt 7 [] (.done) <| .none) <| .none) <| .none):=id rfl
def zNc (n:Nat):List Row:=
 match n with
 | 7=>[⟨8589934592,16,0,1⟩,⟨17179869184,8589934592,1,2⟩,⟨34359738368,8,0,0⟩,⟨68719476736,34359738368,4,5⟩,⟨137438953472,8,0,0⟩,⟨274877906944,137438953472,24,5⟩,⟨549755813888,343597383680,40,0⟩,⟨1099511627776,549755813888,64,0⟩,⟨2199023255552,1116691496960,162,5⟩,⟨4398046511104,16,511,1⟩,⟨0,6597069766656,1023,4⟩]
 | 8=>[⟨8796093022208,16,0,1⟩,⟨17592186044416,8796093022208,1,2⟩,⟨35184372088832,8,0,0⟩,⟨70368744177664,35184372088832,4,5⟩,⟨140737488355328,70368744177664,8,2⟩,⟨281474976710656,140737488355328,16,0⟩,⟨562949953421312,299067162755072,42,5⟩,⟨1125899906842624,16,127,1⟩,⟨0,1688849860263936,255,4⟩]
 | 12=>[⟨73786976294838206464,16,0,1⟩,⟨147573952589676412928,73786976294838206464,1,2⟩,⟨295147905179352825856,8,0,0⟩,⟨590295810358705651712,295147905179352825856,4,5⟩,⟨1180591620717411303424,590295810358705651712,8,0⟩,⟨2361183241434822606848,1328165573307087716352,26,5⟩,⟨4722366482869645213696,16,63,1⟩,⟨0,7083549724304467820544,127,4⟩]
 | 16=>[⟨309485009821345068724781056,16,0,1⟩,⟨618970019642690137449562112,309485009821345068724781056,1,2⟩,⟨1237940039285380274899124224,8,0,0⟩,⟨2475880078570760549798248448,1237940039285380274899124224,4,5⟩,⟨4951760157141521099596496896,2475880078570760549798248448,8,0⟩,⟨9903520314283042199192993792,5570730176784211237046059008,26,5⟩,⟨19807040628566084398385987584,16,63,1⟩,⟨0,29710560942849126597578981376,127,4⟩]
 | _=>[]
theorem zGe:Ent 103 Tryz.f103 Yx [.cell 2 32] 101:=ent zNc Tryz.func103 Tryz.results103 Tryz.ntmps103 (by kernel_rfl)
def Gy (n:Nat):zL:=
 match n with
 | 5=>.one 0 <| .one 1 <| .one 2 <| .one 3 <| .one 4 <| .one 5 <| .done
 | 8=>.one 0 <| .one 1 <| .one 2 <| .one 3 <| .one 4 <| .one 5 <| .one 6 <| .one 9 <| .one 10 <| .one 7 <| .one 8 <| .one 11 <| .one 12 <| .alt 13 [] (.alt 14 [12,11,8,7] (.one 15 <| .one 16 <| .done) <| .none) <| .none
 | _=>.done
@[go_sem] theorem zVV:Gy 5=(.one 0 <| .one 1 <| .one 2 <| .one 3 <| .one 4 <| .one 5 <| .done):=id rfl
@[go_sem] theorem zag:Gy 8=(.one 0 <| .one 1 <| .one 2 <| .one 3 <| .one 4 <| .one 5 <| .one 6 <| .one 9 <| .one 10 <| .one 7 <| .one 8 <| .one 11 <| .one 12 <| .alt 13 [] (.alt 14 [12,11,8,7] (.one 15 <| .one 16 <| .done) <| .none) <| .none):=id rfl
def zQF (n:Nat):List Row:=
 match n with
 | 5=>[⟨524288,16,0,0⟩,⟨1048576,524288,1,2⟩,⟨2097152,1,0,0⟩,⟨4194304,2097152,4,1⟩,⟨8388608,5242880,10,2⟩,⟨16777216,8388608,16,0⟩]
 | 8=>[⟨536870912,1,0,0⟩,⟨1073741824,536870912,1,1⟩,⟨2147483648,1073741824,2,2⟩,⟨4294967296,2147483648,4,1⟩,⟨8589934592,4294967296,8,0⟩,⟨17179869184,1,0,0⟩,⟨34359738368,17179869184,32,1⟩,⟨68719476736,34359738368,64,2⟩,⟨137438953472,68719476736,128,2⟩,⟨274877906944,1,0,0⟩,⟨549755813888,274877906944,512,1⟩,⟨1099511627776,549755813888,1024,2⟩,⟨2199023255552,1099511627776,2048,2⟩,⟨64,0,0,3⟩,⟨0,8589934656,8223,4⟩,⟨128,137438953472,25087,0⟩,⟨256,2199023255552,65535,0⟩]
 | _=>[]
theorem zOc:Ent 107 Tryz.f107 Gy [.cell 2 32,.tmp 3] 86:=ent zQF Tryz.func107 Tryz.results107 Tryz.ntmps107 (by kernel_rfl)
theorem zIo:Ent 108 Tryz.f108 pl0 [.tmp 2] 9:=ent tb0 Tryz.func108 Tryz.results108 Tryz.ntmps108 (by kernel_rfl)
theorem zHf:Ent 109 Tryz.f109 pl0 [.tmp 2] 45:=ent tb0 Tryz.func109 Tryz.results109 Tryz.ntmps109 (by kernel_rfl)
end Go.Proofs.YtbmibhjjogobhaaGreat
namespace Go.Proofs.YtbmibhjjogobhaaGreat
open Go Go.Eng
set_option maxRecDepth 20000
variable [zB]
theorem zLH:Ent 124 Tryz.f124 pl0 [.tmp 2] 20:=ent tb0 Tryz.func124 Tryz.results124 Tryz.ntmps124 (by kernel_rfl)
def GC (n:Nat):zL:=
 match n with
 | 4=>.one 0 <| .one 1 <| .one 2 <| .one 3 <| .one 4 <| .one 5 <| .one 6 <| .one 8 <| .one 9 <| .one 10 <| .one 11 <| .one 12 <| .one 13 <| .alt 7 [13,12,11,10,9,8] (.alt 14 [] (.one 15 <| .done) <| .none) <| .none
 | 19=>.one 0 <| .one 1 <| .one 2 <| .one 3 <| .one 4 <| .one 6 <| .one 7 <| .one 9 <| .one 10 <| .one 11 <| .one 12 <| .one 13 <| .one 14 <| .alt 5 [14,13,12,11,10,9,7,6] (.alt 8 [14,13,12,11,10,9] (.alt 15 [] (.one 16 <| .done) <| .none) <| .none) <| .none
 | _=>.done
@[go_sem] theorem zYb:GC 4=(.one 0 <| .one 1 <| .one 2 <| .one 3 <| .one 4 <| .one 5 <| .one 6 <| .one 8 <| .one 9 <| .one 10 <| .one 11 <| .one 12 <| .one 13 <| .alt 7 [13,12,11,10,9,8] (.alt 14 [] (.one 15 <| .done) <| .none) <| .none):=id rfl
@[go_sem] theorem zcW:GC 19=(.one 0 <| .one 1 <| .one 2 <| .one 3 <| .one 4 <| .one 6 <| .one 7 <| .one 9 <| .one 10 <| .one 11 <| .one 12 <| .one 13 <| .one 14 <| .alt 5 [14,13,12,11,10,9,7,6] (.alt 8 [14,13,12,11,10,9] (.alt 15 [] (.one 16 <| .done) <| .none) <| .none) <| .none):=id rfl
def zIg (n:Nat):List Row:=
 match n with
 | 4=>[⟨1048576,1,0,0⟩,⟨2097152,64,0,1⟩,⟨4194304,2097152,2,1⟩,⟨8388608,64,0,1⟩,⟨16777216,8388608,8,1⟩,⟨33554432,16777216,16,2⟩,⟨67108864,37748736,36,1⟩,⟨134217728,68157440,65,5⟩,⟨268435456,64,0,1⟩,⟨536870912,268435456,256,1⟩,⟨1073741824,64,0,1⟩,⟨2147483648,1073741824,1024,1⟩,⟨4294967296,2147483648,2048,2⟩,⟨8589934592,4831838208,4608,1⟩,⟨17179869184,8724152320,8320,5⟩,⟨1,17179869184,32767,0⟩]
 | 19=>[⟨590295810358705651712,1,0,0⟩,⟨1180591620717411303424,4096,0,1⟩,⟨2361183241434822606848,1180591620717411303424,2,2⟩,⟨4722366482869645213696,2361183241434822606848,4,2⟩,⟨9444732965739290427392,4722366482869645213696,8,0⟩,⟨18889465931478580854784,10035028776097996079104,17,5⟩,⟨37778931862957161709568,4096,0,1⟩,⟨75557863725914323419136,37778931862957161709568,64,2⟩,⟨151115727451828646838272,94447329657392904273920,160,5⟩,⟨302231454903657293676544,4096,0,1⟩,⟨604462909807314587353088,302231454903657293676544,512,1⟩,⟨1208925819614629174706176,4096,0,1⟩,⟨2417851639229258349412352,1208925819614629174706176,2048,1⟩,⟨4835703278458516698824704,2417851639229258349412352,4096,2⟩,⟨9671406556917033397649408,5440166188265831286177792,9216,1⟩,⟨19342813113834066795298816,9822522284368862044487680,16640,5⟩,⟨1,19342813113834066795298816,65535,0⟩]
 | _=>[]
theorem zK7:Ent 125 Tryz.f125 GC [.tmp 4] 105:=ent zIg Tryz.func125 Tryz.results125 Tryz.ntmps125 (by kernel_rfl)
theorem zLE:Ent 126 Tryz.f126 pl0 [.tmp 2] 7:=ent tb0 Tryz.func126 Tryz.results126 Tryz.ntmps126 (by kernel_rfl)
theorem zHI:Ent 128 Tryz.f128 pl0 [.tmp 2] 42:=ent tb0 Tryz.func128 Tryz.results128 Tryz.ntmps128 (by kernel_rfl)
theorem zHM:Ent 129 Tryz.f129 pl0 [.tmp 4] 23:=ent tb0 Tryz.func129 Tryz.results129 Tryz.ntmps129 (by kernel_rfl)
def VP (n:Nat):zL:=
 match n with
 | 7=>.one 0 <| .one 1 <| .one 2 <| .one 3 <| .one 4 <| .one 5 <| .one 6 <| .one 7 <| .one 8 <| .one 9 <| .one 10 <| .one 11 <| .one 12 <| .one 13 <| .one 14 <| .one 15 <| .done
 | 9=>.one 0 <| .one 1 <| .one 2 <| .one 3 <| .one 4 <| .one 5 <| .one 6 <| .one 7 <| .one 8 <| .one 9 <| .one 10 <| .one 11 <| .one 12 <| .one 13 <| .one 14 <| .done
 | 11=>.one 0 <| .one 1 <| .one 2 <| .one 3 <| .one 5 <| .one 6 <| .one 11 <| .one 12 <| .one 7 <| .one 8 <| .one 9 <| .one 13 <| .alt 4 [13,8,7] (.alt 10 [13] (.alt 14 [] (.one 15 <| .done) <| .none) <| .none) <| .none
 | _=>.done
@[go_sem] theorem zX2:VP 7=(.one 0 <| .one 1 <| .one 2 <| .one 3 <| .one 4 <| .one 5 <| .one 6 <| .one 7 <| .one 8 <| .one 9 <| .one 10 <| .one 11 <| .one 12 <| .one 13 <| .one 14 <| .one 15 <| .done):=id rfl
@[go_sem] theorem zWJ:VP 9=(.one 0 <| .one 1 <| .one 2 <| .one 3 <| .one 4 <| .one 5 <| .one 6 <| .one 7 <| .one 8 <| .one 9 <| .one 10 <| .one 11 <| .one 12 <| .one 13 <| .one 14 <| .done):=id rfl
@[go_sem] theorem zbX:VP 11=(.one 0 <| .one 1 <| .one 2 <| .one 3 <| .one 5 <| .one 6 <| .one 11 <| .one 12 <| .one 7 <| .one 8 <| .one 9 <| .one 13 <| .alt 4 [13,8,7] (.alt 10 [13] (.alt 14 [] (.one 15 <| .done) <| .none) <| .none) <| .none):=id rfl
def zH3 (n:Nat):List Row:=
 match n with
 | 7=>[⟨524288,32,0,0⟩,⟨1048576,8,0,0⟩,⟨2097152,1048576,2,1⟩,⟨4194304,2621440,5,1⟩,⟨8388608,4194304,8,0⟩,⟨16777216,8388616,16,0⟩,⟨33554432,8388640,16,0⟩,⟨67108864,58720256,112,1⟩,⟨134217728,75497472,144,2⟩,⟨268435456,8388609,16,0⟩,⟨536870912,8388624,16,0⟩,⟨1073741824,813694976,1552,1⟩,⟨2147483648,1082130432,2064,2⟩,⟨4294967296,2290089984,4368,0⟩,⟨8589934592,4303355904,8208,1⟩,⟨17179869184,8598323200,16400,0⟩]
 | 9=>[⟨137438953472,32,0,0⟩,⟨274877906944,8,0,0⟩,⟨549755813888,274877906944,2,1⟩,⟨1099511627776,687194767360,5,1⟩,⟨2199023255552,1099511627776,8,0⟩,⟨4398046511104,2199023255560,16,0⟩,⟨8796093022208,2199023255584,16,0⟩,⟨17592186044416,15393162788864,112,1⟩,⟨35184372088832,19791209299968,144,2⟩,⟨70368744177664,2199023255553,16,0⟩,⟨140737488355328,2199023255568,16,0⟩,⟨281474976710656,213305255788544,1552,1⟩,⟨562949953421312,283673999966208,2064,2⟩,⟨1125899906842624,600333348765696,4368,1⟩,⟨2251799813685248,1128098930098176,8208,0⟩]
 | 11=>[⟨4503599627370496,64,0,0⟩,⟨9007199254740992,8,0,0⟩,⟨18014398509481984,32,0,0⟩,⟨36028797018963968,27021597764222976,6,1⟩,⟨72057594037927936,40532396646334464,9,5⟩,⟨144115188075855872,1,0,0⟩,⟨288230376151711744,16,0,0⟩,⟨576460752303423488,432345564227567616,96,1⟩,⟨1152921504606846976,576460752303423488,128,2⟩,⟨2305843009213693952,1152921504606846976,256,0⟩,⟨4611686018427387904,2377900603251621888,528,5⟩,⟨9223372036854775808,8,0,0⟩,⟨18446744073709551616,32,0,0⟩,⟨36893488147419103232,27670116110564327424,6144,1⟩,⟨73786976294838206464,41505174165846491136,9216,5⟩,⟨64,73786976294838206464,32767,0⟩]
 | _=>[]
theorem zRd:Ent 130 Tryz.f130 VP [.tmp 2] 69:=ent zH3 Tryz.func130 Tryz.results130 Tryz.ntmps130 (by kernel_rfl)
def GD (n:Nat):zL:=
 match n with
 | 6=>.one 0 <| .one 1 <| .one 2 <| .one 3 <| .one 4 <| .one 5 <| .one 6 <| .one 7 <| .one 8 <| .done
 | 8=>.one 0 <| .one 1 <| .one 2 <| .one 3 <| .one 4 <| .one 5 <| .one 6 <| .one 7 <| .alt 8 [] (.one 9 <| .done) <| .none
 | _=>.done
@[go_sem] theorem zSL:GD 6=(.one 0 <| .one 1 <| .one 2 <| .one 3 <| .one 4 <| .one 5 <| .one 6 <| .one 7 <| .one 8 <| .done):=id rfl
@[go_sem] theorem zTk:GD 8=(.one 0 <| .one 1 <| .one 2 <| .one 3 <| .one 4 <| .one 5 <| .one 6 <| .one 7 <| .alt 8 [] (.one 9 <| .done) <| .none):=id rfl
def zJO (n:Nat):List Row:=
 match n with
 | 6=>[⟨32768,1,0,0⟩,⟨65536,128,0,0⟩,⟨131072,98304,3,1⟩,⟨262144,131072,4,1⟩,⟨524288,262144,8,2⟩,⟨1048576,8,0,1⟩,⟨2097152,1048576,32,2⟩,⟨4194304,2621440,80,0⟩,⟨256,4194304,255,0⟩]
 | 8=>[⟨33554432,32,0,0⟩,⟨67108864,1,0,0⟩,⟨134217728,128,0,0⟩,⟨268435456,201326592,6,1⟩,⟨536870912,268435456,8,2⟩,⟨1073741824,8,0,2⟩,⟨2147483648,1610612736,48,0⟩,⟨4294967296,2147483648,64,0⟩,⟨8589934592,4328521728,193,5⟩,⟨32,8589934592,511,0⟩]
 | _=>[]
theorem zRy:Ent 131 Tryz.f131 GD [.tmp 4] 58:=ent zJO Tryz.func131 Tryz.results131 Tryz.ntmps131 (by kernel_rfl)
theorem Kh:Ent 132 Tryz.f132 pl0 [.cell 4 120] 35:=ent tb0 Tryz.func132 Tryz.results132 Tryz.ntmps132 (by kernel_rfl)
def zAT (n:Nat):zL:=
 match n with
 | 4=>.one 0 <| .one 1 <| .one 2 <| .one 3 <| .one 4 <| .one 5 <| .one 6 <| .done
 | _=>.done
@[go_sem] theorem zTM:zAT 4=(.one 0 <| .one 1 <| .one 2 <| .one 3 <| .one 4 <| .one 5 <| .one 6 <| .done):=id rfl
def zRn (n:Nat):List Row:=
 match n with
 | 4=>[⟨8192,1,0,0⟩,⟨16384,64,0,0⟩,⟨32768,24576,3,1⟩,⟨65536,32768,4,1⟩,⟨131072,65536,8,2⟩,⟨262144,8,0,2⟩,⟨524288,393216,48,1⟩]
 | _=>[]
theorem zPx:Ent 133 Tryz.f133 zAT [.cell 4 114,.tmp 5] 26:=ent zRn Tryz.func133 Tryz.results133 Tryz.ntmps133 (by kernel_rfl)
theorem zRh:Ent 134 Tryz.f134 pl0 [.cell 6 114,.tmp 7] 26:=ent tb0 Tryz.func134 Tryz.results134 Tryz.ntmps134 (by kernel_rfl)
theorem zLO:Ent 135 Tryz.f135 pl0 [.cell 2 93,.tmp 3] 27:=ent tb0 Tryz.func135 Tryz.results135 Tryz.ntmps135 (by kernel_rfl)
theorem zND:Ent 136 Tryz.f136 pl0 [.cell 2 114,.tmp 3] 27:=ent tb0 Tryz.func136 Tryz.results136 Tryz.ntmps136 (by kernel_rfl)
end Go.Proofs.YtbmibhjjogobhaaGreat
namespace Go.Proofs.YtbmibhjjogobhaaGreat
open Go Go.Eng
set_option maxRecDepth 20000
variable [zB]
theorem zP5:Ent 170 Tryz.f170 pl0 [.tmp 4] 12:=ent tb0 Tryz.func170 Tryz.results170 Tryz.ntmps170 (by kernel_rfl)
theorem zOs:Ent 172 Tryz.f172 pl0 [.tmp 4] 6:=ent tb0 Tryz.func172 Tryz.results172 Tryz.ntmps172 (by kernel_rfl)
theorem zGc:Ent 173 Tryz.f173 pl0 [.cell 2 93] 26:=ent tb0 Tryz.func173 Tryz.results173 Tryz.ntmps173 (by kernel_rfl)
theorem zIq:Ent 174 Tryz.f174 pl0 [.cell 2 114] 26:=ent tb0 Tryz.func174 Tryz.results174 Tryz.ntmps174 (by kernel_rfl)
def zBP (n:Nat):zL:=
 match n with
 | 1=>.one 0 <| .one 1 <| .one 2 <| .one 3 <| .one 4 <| .one 5 <| .one 6 <| .one 7 <| .one 8 <| .one 9 <| .one 10 <| .one 11 <| .one 12 <| .one 13 <| .one 14 <| .done
 | _=>.done
@[go_sem] theorem zVH:zBP 1=(.one 0 <| .one 1 <| .one 2 <| .one 3 <| .one 4 <| .one 5 <| .one 6 <| .one 7 <| .one 8 <| .one 9 <| .one 10 <| .one 11 <| .one 12 <| .one 13 <| .one 14 <| .done):=id rfl
def zK2 (n:Nat):List Row:=
 match n with
 | 1=>[⟨256,1,0,0⟩,⟨512,256,1,1⟩,⟨1024,512,2,1⟩,⟨2048,1024,4,2⟩,⟨4096,1,0,0⟩,⟨8192,4096,16,1⟩,⟨16384,8192,32,1⟩,⟨32768,16384,64,2⟩,⟨65536,2,0,0⟩,⟨131072,100352,392,2⟩,⟨128,131072,512,0⟩,⟨262144,128,1024,0⟩,⟨524288,128,1024,0⟩,⟨32,262144,4095,0⟩,⟨64,524288,16383,0⟩]
 | _=>[]
theorem zKC:Ent 175 Tryz.f175 zBP [.tmp 4] 41:=ent zK2 Tryz.func175 Tryz.results175 Tryz.ntmps175 (by kernel_rfl)
theorem zPy:Ent 176 Tryz.f176 pl0 [.cell 2 120] 27:=ent tb0 Tryz.func176 Tryz.results176 Tryz.ntmps176 (by kernel_rfl)
theorem zHV:Ent 183 Tryz.f183 pl0 [.tmp 4] 10:=ent tb0 Tryz.func183 Tryz.results183 Tryz.ntmps183 (by kernel_rfl)
theorem zGS:Ent 184 Tryz.f184 pl0 [.tmp 4] 16:=ent tb0 Tryz.func184 Tryz.results184 Tryz.ntmps184 (by kernel_rfl)
theorem zRZ:Ent 185 Tryz.f185 pl0 [.cell 2 116] 8:=ent tb0 Tryz.func185 Tryz.results185 Tryz.ntmps185 (by kernel_rfl)
theorem zOn:Ent 186 Tryz.f186 pl0 [.tmp 4] 16:=ent tb0 Tryz.func186 Tryz.results186 Tryz.ntmps186 (by kernel_rfl)
theorem zJ3:Ent 187 Tryz.f187 pl0 [.tmp 2] 6:=ent tb0 Tryz.func187 Tryz.results187 Tryz.ntmps187 (by kernel_rfl)
theorem zKk:Ent 188 Tryz.f188 pl0 [.tmp 4] 16:=ent tb0 Tryz.func188 Tryz.results188 Tryz.ntmps188 (by kernel_rfl)
theorem zMT:Ent 189 Tryz.f189 pl0 [.cell 2 93] 10:=ent tb0 Tryz.func189 Tryz.results189 Tryz.ntmps189 (by kernel_rfl)
theorem zJQ:Ent 190 Tryz.f190 pl0 [.tmp 4] 16:=ent tb0 Tryz.func190 Tryz.results190 Tryz.ntmps190 (by kernel_rfl)
theorem zGR:Ent 191 Tryz.f191 pl0 [.cell 2 120] 25:=ent tb0 Tryz.func191 Tryz.results191 Tryz.ntmps191 (by kernel_rfl)
theorem zNd:Ent 192 Tryz.f192 pl0 [.tmp 2] 23:=ent tb0 Tryz.func192 Tryz.results192 Tryz.ntmps192 (by kernel_rfl)
theorem zGp:Ent 193 Tryz.f193 pl0 [.tmp 2] 23:=ent tb0 Tryz.func193 Tryz.results193 Tryz.ntmps193 (by kernel_rfl)
theorem zLK:Ent 205 Tryz.f205 pl0 [.tmp 4] 8:=ent tb0 Tryz.func205 Tryz.results205 Tryz.ntmps205 (by kernel_rfl)
end Go.Proofs.YtbmibhjjogobhaaGreat
namespace Go.Proofs.YtbmibhjjogobhaaGreat
open Go Go.Eng
set_option maxRecDepth 20000
variable [zB]
theorem zGU:Ent 211 Tryz.f211 pl0 [.tmp 2] 6:=ent tb0 Tryz.func211 Tryz.results211 Tryz.ntmps211 (by kernel_rfl)
theorem zIS:Ent 212 Tryz.f212 pl0 [.tmp 4] 13:=ent tb0 Tryz.func212 Tryz.results212 Tryz.ntmps212 (by kernel_rfl)
theorem zK9:Ent 213 Tryz.f213 pl0 [.tmp 6] 26:=ent tb0 Tryz.func213 Tryz.results213 Tryz.ntmps213 (by kernel_rfl)
def zED (n:Nat):zL:=
 match n with
 | 4=>.one 0 <| .one 1 <| .one 2 <| .one 3 <| .one 4 <| .one 5 <| .one 6 <| .one 7 <| .one 8 <| .one 9 <| .one 10 <| .one 11 <| .one 12 <| .one 13 <| .one 14 <| .one 15 <| .one 16 <| .one 17 <| .one 18 <| .one 19 <| .one 20 <| .one 21 <| .one 22 <| .one 23 <| .one 24 <| .one 25 <| .one 26 <| .one 27 <| .one 28 <| .one 29 <| .one 30 <| .one 31 <| .one 32 <| .one 33 <| .one 34 <| .done
 | _=>.done
@[go_sem] theorem zXT:zED 4=(.one 0 <| .one 1 <| .one 2 <| .one 3 <| .one 4 <| .one 5 <| .one 6 <| .one 7 <| .one 8 <| .one 9 <| .one 10 <| .one 11 <| .one 12 <| .one 13 <| .one 14 <| .one 15 <| .one 16 <| .one 17 <| .one 18 <| .one 19 <| .one 20 <| .one 21 <| .one 22 <| .one 23 <| .one 24 <| .one 25 <| .one 26 <| .one 27 <| .one 28 <| .one 29 <| .one 30 <| .one 31 <| .one 32 <| .one 33 <| .one 34 <| .done):=id rfl
def zRQ (n:Nat):List Row:=
 match n with
 | 4=>[⟨1024,1,0,0⟩,⟨2048,8,0,0⟩,⟨4096,3072,3,1⟩,⟨8192,4096,4,1⟩,⟨16384,8192,8,2⟩,⟨32768,16384,16,0⟩,⟨65536,32768,32,0⟩,⟨131072,65536,96,0⟩,⟨262144,131073,128,0⟩,⟨524288,131080,128,0⟩,⟨1048576,917504,896,1⟩,⟨2097152,1179648,1152,1⟩,⟨4194304,2228224,2176,2⟩,⟨8388608,4325376,4224,0⟩,⟨16777216,8519680,8320,0⟩,⟨33554432,16908288,16512,0⟩,⟨67108864,33554432,40960,0⟩,⟨134217728,67108872,65536,0⟩,⟨268435456,201326592,196608,1⟩,⟨536870912,335544320,327680,0⟩,⟨1073741824,536870913,524288,0⟩,⟨2147483648,536870920,524288,0⟩,⟨4294967296,2684354560,2621440,1⟩,⟨8589934592,5905580032,5767168,1⟩,⟨17179869184,9126805504,8912896,1⟩,⟨34359738368,17716740096,17301504,2⟩,⟨68719476736,536870913,524288,0⟩,⟨137438953472,536870920,524288,0⟩,⟨274877906944,206695301120,201850880,1⟩,⟨549755813888,275414777856,268959744,1⟩,⟨1099511627776,550292684800,537395200,2⟩,⟨2199023255552,1134408237056,1107820544,0⟩,⟨4398046511104,2199560126464,2148007936,1⟩,⟨8796093022208,4398650490880,4295557120,0⟩,⟨17592186044416,8796160131072,8590000128,0⟩]
 | _=>[]
theorem zIW:Ent 215 Tryz.f215 zED [.tmp 2] 45:=ent zRQ Tryz.func215 Tryz.results215 Tryz.ntmps215 (by kernel_rfl)
def zDM (n:Nat):zL:=
 match n with
 | 11=>.one 0 <| .one 1 <| .one 2 <| .one 3 <| .one 4 <| .one 5 <| .one 6 <| .one 7 <| .one 8 <| .one 9 <| .one 10 <| .one 11 <| .one 12 <| .one 13 <| .one 14 <| .one 15 <| .one 16 <| .one 17 <| .one 18 <| .one 19 <| .one 20 <| .one 21 <| .one 22 <| .done
 | _=>.done
@[go_sem] theorem zTA:zDM 11=(.one 0 <| .one 1 <| .one 2 <| .one 3 <| .one 4 <| .one 5 <| .one 6 <| .one 7 <| .one 8 <| .one 9 <| .one 10 <| .one 11 <| .one 12 <| .one 13 <| .one 14 <| .one 15 <| .one 16 <| .one 17 <| .one 18 <| .one 19 <| .one 20 <| .one 21 <| .one 22 <| .done):=id rfl
def zL3 (n:Nat):List Row:=
 match n with
 | 11=>[⟨144115188075855872,2,0,0⟩,⟨288230376151711744,64,0,0⟩,⟨576460752303423488,432345564227567616,3,1⟩,⟨1152921504606846976,576460752303423488,4,2⟩,⟨2305843009213693952,1152921504606846976,8,0⟩,⟨4611686018427387904,2305843009213693952,16,0⟩,⟨9223372036854775808,4611686018427387904,48,0⟩,⟨18446744073709551616,9223372036854775872,64,0⟩,⟨36893488147419103232,27670116110564327424,192,1⟩,⟨73786976294838206464,46116860184273879040,320,0⟩,⟨147573952589676412928,73786976294838206466,512,0⟩,⟨295147905179352825856,73786976294838206528,512,0⟩,⟨590295810358705651712,368934881474191032320,2560,1⟩,⟨1180591620717411303424,811656739243220271104,5632,1⟩,⟨2361183241434822606848,1254378597012249509888,8704,2⟩,⟨4722366482869645213696,73786976294838206466,512,0⟩,⟨9444732965739290427392,73786976294838206528,512,0⟩,⟨18889465931478580854784,14240886424903773847552,98816,1⟩,⟨37778931862957161709568,18963252907773419061248,131584,2⟩,⟨75557863725914323419136,40213902080686822522880,279040,0⟩,⟨151115727451828646838272,75631650702209161625600,524800,1⟩,⟨302231454903657293676544,151198737800160339820544,1049152,0⟩,⟨604462909807314587353088,302240678275694148452352,2097216,0⟩]
 | _=>[]
theorem zOF:Ent 216 Tryz.f216 zDM [.tmp 4] 80:=ent zL3 Tryz.func216 Tryz.results216 Tryz.ntmps216 (by kernel_rfl)
def zD7 (n:Nat):zL:=
 match n with
 | 4=>.one 0 <| .one 1 <| .one 2 <| .one 3 <| .one 4 <| .one 5 <| .one 6 <| .one 7 <| .one 8 <| .one 9 <| .one 10 <| .one 11 <| .one 12 <| .one 13 <| .one 14 <| .one 15 <| .one 16 <| .one 17 <| .one 18 <| .one 19 <| .one 20 <| .one 21 <| .one 22 <| .one 23 <| .one 24 <| .done
 | _=>.done
@[go_sem] theorem zSY:zD7 4=(.one 0 <| .one 1 <| .one 2 <| .one 3 <| .one 4 <| .one 5 <| .one 6 <| .one 7 <| .one 8 <| .one 9 <| .one 10 <| .one 11 <| .one 12 <| .one 13 <| .one 14 <| .one 15 <| .one 16 <| .one 17 <| .one 18 <| .one 19 <| .one 20 <| .one 21 <| .one 22 <| .one 23 <| .one 24 <| .done):=id rfl
def zGE (n:Nat):List Row:=
 match n with
 | 4=>[⟨1024,1,0,0⟩,⟨2048,8,0,0⟩,⟨4096,3072,3,1⟩,⟨8192,4096,4,2⟩,⟨16384,8192,8,0⟩,⟨32768,16384,16,0⟩,⟨65536,32768,48,0⟩,⟨131072,65544,64,0⟩,⟨262144,196608,192,1⟩,⟨524288,327680,320,0⟩,⟨1048576,524289,512,0⟩,⟨2097152,524296,512,0⟩,⟨4194304,2621440,2560,1⟩,⟨8388608,5767168,5632,1⟩,⟨16777216,8912896,8704,1⟩,⟨33554432,17301504,16896,2⟩,⟨67108864,524289,512,0⟩,⟨134217728,524296,512,0⟩,⟨268435456,201850880,197120,1⟩,⟨536870912,268959744,262656,1⟩,⟨1073741824,537395200,524800,2⟩,⟨2147483648,1107820544,1081856,0⟩,⟨4294967296,2148007936,2097664,1⟩,⟨8589934592,4295557120,4194880,0⟩,⟨17179869184,8590000128,8388672,0⟩]
 | _=>[]
theorem zOO:Ent 217 Tryz.f217 zD7 [.tmp 2] 35:=ent zGE Tryz.func217 Tryz.results217 Tryz.ntmps217 (by kernel_rfl)
theorem zRF:Ent 218 Tryz.f218 pl0 [.tmp 4] 24:=ent tb0 Tryz.func218 Tryz.results218 Tryz.ntmps218 (by kernel_rfl)
theorem zHo:Ent 219 Tryz.f219 pl0 [.cell 4 120] 46:=ent tb0 Tryz.func219 Tryz.results219 Tryz.ntmps219 (by kernel_rfl)
theorem zME:Ent 220 Tryz.f220 pl0 [.cell 2 114] 21:=ent tb0 Tryz.func220 Tryz.results220 Tryz.ntmps220 (by kernel_rfl)
theorem zGz:Ent 221 Tryz.f221 pl0 [.cell 4 114] 10:=ent tb0 Tryz.func221 Tryz.results221 Tryz.ntmps221 (by kernel_rfl)
theorem zKr:Ent 230 Tryz.f230 pl0 [.tmp 4] 19:=ent tb0 Tryz.func230 Tryz.results230 Tryz.ntmps230 (by kernel_rfl)
theorem zRE:Ent 236 Tryz.f236 pl0 [.tmp 4] 19:=ent tb0 Tryz.func236 Tryz.results236 Tryz.ntmps236 (by kernel_rfl)
def KA (n:Nat):zL:=
 match n with
 | 2=>.one 0 <| .one 1 <| .one 2 <| .one 3 <| .one 4 <| .one 5 <| .one 6 <| .one 7 <| .one 8 <| .one 9 <| .one 10 <| .one 11 <| .one 12 <| .one 13 <| .one 14 <| .one 15 <| .one 16 <| .one 17 <| .one 18 <| .one 19 <| .one 20 <| .one 21 <| .one 22 <| .done
 | 5=>.one 0 <| .one 1 <| .one 2 <| .one 3 <| .one 4 <| .one 5 <| .one 6 <| .one 7 <| .one 8 <| .one 9 <| .one 10 <| .one 11 <| .one 12 <| .one 13 <| .one 14 <| .one 15 <| .done
 | _=>.done
@[go_sem] theorem zdA:KA 2=(.one 0 <| .one 1 <| .one 2 <| .one 3 <| .one 4 <| .one 5 <| .one 6 <| .one 7 <| .one 8 <| .one 9 <| .one 10 <| .one 11 <| .one 12 <| .one 13 <| .one 14 <| .one 15 <| .one 16 <| .one 17 <| .one 18 <| .one 19 <| .one 20 <| .one 21 <| .one 22 <| .done):=id rfl
@[go_sem] theorem zYm:KA 5=(.one 0 <| .one 1 <| .one 2 <| .one 3 <| .one 4 <| .one 5 <| .one 6 <| .one 7 <| .one 8 <| .one 9 <| .one 10 <| .one 11 <| .one 12 <| .one 13 <| .one 14 <| .one 15 <| .done):=id rfl
def zHn (n:Nat):List Row:=
 match n with
 | 2=>[⟨1024,1,0,0⟩,⟨2048,1024,1,1⟩,⟨4096,2048,2,1⟩,⟨8192,4096,4,2⟩,⟨16384,8192,8,0⟩,⟨32768,16416,16,0⟩,⟨65536,16386,16,0⟩,⟨131072,114688,112,1⟩,⟨262144,147456,144,0⟩,⟨524288,262144,272,0⟩,⟨1048576,524320,512,0⟩,⟨2097152,524289,512,0⟩,⟨4194304,2621440,2560,1⟩,⟨8388608,4718592,4608,1⟩,⟨16777216,8912896,8704,2⟩,⟨33554432,17301504,16896,1⟩,⟨67108864,524289,512,0⟩,⟨134217728,67633152,66048,1⟩,⟨268435456,134742016,131584,1⟩,⟨536870912,268959744,262656,2⟩,⟨1073741824,570949632,557568,1⟩,⟨2147483648,1075314688,1050112,1⟩,⟨4294967296,2148007936,2097664,0⟩]
 | 5=>[⟨68719476736,1,0,0⟩,⟨137438953472,68719476736,1,1⟩,⟨274877906944,137438953472,2,1⟩,⟨549755813888,274877906944,4,2⟩,⟨1099511627776,1,0,0⟩,⟨2199023255552,1099511627776,16,1⟩,⟨4398046511104,2199023255552,32,1⟩,⟨8796093022208,4398046511104,64,2⟩,⟨17592186044416,1,0,0⟩,⟨35184372088832,17592186044416,256,1⟩,⟨70368744177664,35184372088832,512,1⟩,⟨140737488355328,70368744177664,1024,2⟩,⟨281474976710656,32,0,0⟩,⟨562949953421312,422212465065984,6144,1⟩,⟨1125899906842624,572295802257408,8328,1⟩,⟨64,1125899906842624,32767,0⟩]
 | _=>[]
theorem zLT:Ent 243 Tryz.f243 KA [.tmp 4] 61:=ent zHn Tryz.func243 Tryz.results243 Tryz.ntmps243 (by kernel_rfl)
theorem zQl:Ent 244 Tryz.f244 pl0 [.cell 2 114] 10:=ent tb0 Tryz.func244 Tryz.results244 Tryz.ntmps244 (by kernel_rfl)
def zA8 (n:Nat):zL:=
 match n with
 | 1=>.one 0 <| .one 1 <| .one 2 <| .one 3 <| .one 4 <| .one 5 <| .one 6 <| .one 7 <| .one 8 <| .one 9 <| .one 10 <| .one 11 <| .one 12 <| .one 13 <| .one 14 <| .done
 | _=>.done
@[go_sem] theorem zcf:zA8 1=(.one 0 <| .one 1 <| .one 2 <| .one 3 <| .one 4 <| .one 5 <| .one 6 <| .one 7 <| .one 8 <| .one 9 <| .one 10 <| .one 11 <| .one 12 <| .one 13 <| .one 14 <| .done):=id rfl
def zJ5 (n:Nat):List Row:=
 match n with
 | 1=>[⟨256,1,0,0⟩,⟨512,256,1,1⟩,⟨1024,512,2,1⟩,⟨2048,1024,4,2⟩,⟨4096,1,0,0⟩,⟨8192,4096,16,1⟩,⟨16384,8192,32,1⟩,⟨32768,16384,64,2⟩,⟨65536,2,0,0⟩,⟨131072,100352,392,2⟩,⟨128,131072,512,0⟩,⟨262144,128,1024,0⟩,⟨524288,128,1024,0⟩,⟨32,262144,4095,0⟩,⟨64,524288,16383,0⟩]
 | _=>[]
theorem zGq:Ent 245 Tryz.f245 zA8 [.tmp 4] 40:=ent zJ5 Tryz.func245 Tryz.results245 Tryz.ntmps245 (by kernel_rfl)
def JV (n:Nat):zL:=
 match n with
 | 2=>.one 0 <| .one 1 <| .one 2 <| .one 3 <| .one 4 <| .one 5 <| .one 6 <| .one 7 <| .one 8 <| .one 9 <| .one 10 <| .one 11 <| .one 12 <| .one 13 <| .one 14 <| .one 15 <| .one 16 <| .one 17 <| .done
 | 5=>.one 0 <| .one 1 <| .one 2 <| .one 3 <| .one 4 <| .one 5 <| .one 6 <| .one 7 <| .one 8 <| .one 9 <| .one 10 <| .one 11 <| .one 12 <| .one 13 <| .one 14 <| .one 15 <| .alt 16 [] (.done) <| .none
 | _=>.done
@[go_sem] theorem za2:JV 2=(.one 0 <| .one 1 <| .one 2 <| .one 3 <| .one 4 <| .one 5 <| .one 6 <| .one 7 <| .one 8 <| .one 9 <| .one 10 <| .one 11 <| .one 12 <| .one 13 <| .one 14 <| .one 15 <| .one 16 <| .one 17 <| .done):=id rfl
@[go_sem] theorem zdN:JV 5=(.one 0 <| .one 1 <| .one 2 <| .one 3 <| .one 4 <| .one 5 <| .one 6 <| .one 7 <| .one 8 <| .one 9 <| .one 10 <| .one 11 <| .one 12 <| .one 13 <| .one 14 <| .one 15 <| .alt 16 [] (.done) <| .none):=id rfl
def zIj (n:Nat):List Row:=
 match n with
 | 2=>[⟨512,32,0,0⟩,⟨1024,2,0,0⟩,⟨2048,1024,2,1⟩,⟨4096,2560,5,1⟩,⟨8192,4096,8,0⟩,⟨16384,8224,16,0⟩,⟨32768,8193,16,0⟩,⟨65536,40960,80,1⟩,⟨131072,73728,144,1⟩,⟨262144,139264,272,2⟩,⟨524288,270336,528,1⟩,⟨1048576,8193,16,0⟩,⟨2097152,1056768,2064,1⟩,⟨4194304,2105344,4112,1⟩,⟨8388608,4202496,8208,2⟩,⟨16777216,8921088,17424,1⟩,⟨33554432,16801792,32816,1⟩,⟨67108864,33562624,65552,0⟩]
 | 5=>[⟨1073741824,2,0,0⟩,⟨2147483648,1,0,0⟩,⟨4294967296,2147483648,2,1⟩,⟨8589934592,4294967296,4,1⟩,⟨17179869184,8589934592,8,2⟩,⟨34359738368,1,0,0⟩,⟨68719476736,34359738368,32,1⟩,⟨137438953472,68719476736,64,1⟩,⟨274877906944,137438953472,128,2⟩,⟨549755813888,1,0,0⟩,⟨1099511627776,549755813888,512,1⟩,⟨2199023255552,1099511627776,1024,1⟩,⟨4398046511104,2199023255552,2048,2⟩,⟨8796093022208,32,0,0⟩,⟨17592186044416,13194139533312,12288,1⟩,⟨35184372088832,17884243820544,16656,1⟩,⟨70368744177664,35185445830656,32769,5⟩]
 | _=>[]
theorem zN2:Ent 246 Tryz.f246 JV [.tmp 4] 56:=ent zIj Tryz.func246 Tryz.results246 Tryz.ntmps246 (by kernel_rfl)
end Go.Proofs.YtbmibhjjogobhaaGreat
namespace Go.Proofs.YtbmibhjjogobhaaGreat
open Go Go.Eng
set_option maxRecDepth 20000
variable [zB]
theorem zNH:Ent 258 Tryz.f258 pl0 [.tmp 2] 9:=ent tb0 Tryz.func258 Tryz.results258 Tryz.ntmps258 (by kernel_rfl)
theorem zPu:Ent 260 Tryz.f260 pl0 [.tmp 2] 12:=ent tb0 Tryz.func260 Tryz.results260 Tryz.ntmps260 (by kernel_rfl)
theorem zPA:Ent 264 Tryz.f264 pl0 [.tmp 6,.tmp 7] 42:=ent tb0 Tryz.func264 Tryz.results264 Tryz.ntmps264 (by kernel_rfl)
theorem zQp:Ent 267 Tryz.f267 pl0 [.tmp 2] 18:=ent tb0 Tryz.func267 Tryz.results267 Tryz.ntmps267 (by kernel_rfl)
theorem zJV:Ent 282 Tryz.f282 pl0 [.tmp 2] 26:=ent tb0 Tryz.func282 Tryz.results282 Tryz.ntmps282 (by kernel_rfl)
theorem zHB:Ent 284 Tryz.f284 pl0 [.tmp 2] 18:=ent tb0 Tryz.func284 Tryz.results284 Tryz.ntmps284 (by kernel_rfl)
theorem zMm:Ent 285 Tryz.f285 pl0 [.tmp 2] 11:=ent tb0 Tryz.func285 Tryz.results285 Tryz.ntmps285 (by kernel_rfl)
theorem zNr:Ent 290 Tryz.f290 pl0 [.tmp 2] 39:=ent tb0 Tryz.func290 Tryz.results290 Tryz.ntmps290 (by kernel_rfl)
def zS2 (n:Nat):zL:=
 match n with
 | 1=>.one 0 <| .one 1 <| .one 2 <| .one 3 <| .one 4 <| .one 5 <| .one 6 <| .one 7 <| .one 8 <| .done
 | _=>.done
def zAZ (n:Nat):zL:=
 match n with
 | 1=>.one 0 <| .one 1 <| .one 2 <| .one 3 <| .one 4 <| .one 5 <| .done
 | _=>.done
@[go_sem] theorem za6:zAZ 1=(.one 0 <| .one 1 <| .one 2 <| .one 3 <| .one 4 <| .one 5 <| .done):=id rfl
def zRS (n:Nat):List Row:=
 match n with
 | 1=>[⟨32,4,0,2⟩,⟨64,32,1,0⟩,⟨128,8,0,2⟩,⟨256,128,6,0⟩,⟨512,320,10,0⟩,⟨16,512,31,0⟩]
 | _=>[]
theorem zR6:Ent 293 Tryz.f293 zAZ [.tmp 4] 10:=ent zRS Tryz.func293 Tryz.results293 Tryz.ntmps293 (by kernel_rfl)
end Go.Proofs.YtbmibhjjogobhaaGreat
namespace Go.Proofs.YtbmibhjjogobhaaGreat
open Go Go.Eng
set_option maxRecDepth 20000
variable [zB]
def zCW (n:Nat):zL:=
 match n with
 | 4=>.one 0 <| .one 1 <| .one 2 <| .one 3 <| .one 4 <| .one 5 <| .alt 6 [] (.done) <| .none
 | _=>.done
@[go_sem] theorem zTN:zCW 4=(.one 0 <| .one 1 <| .one 2 <| .one 3 <| .one 4 <| .one 5 <| .alt 6 [] (.done) <| .none):=id rfl
def zKn (n:Nat):List Row:=
 match n with
 | 4=>[⟨32768,8,0,1⟩,⟨65536,2,0,1⟩,⟨131072,65536,2,2⟩,⟨262144,163840,5,1⟩,⟨524288,2,0,1⟩,⟨1048576,524288,16,1⟩,⟨2097152,1310720,40,5⟩]
 | _=>[]
theorem zOC:Ent 297 Tryz.f297 zCW [.tmp 2] 25:=ent zKn Tryz.func297 Tryz.results297 Tryz.ntmps297 (by kernel_rfl)
def zFu (n:Nat):zL:=
 match n with
 | 1=>.one 0 <| .one 1 <| .one 2 <| .one 3 <| .one 4 <| .one 5 <| .one 6 <| .one 7 <| .one 8 <| .one 9 <| .one 10 <| .one 11 <| .one 12 <| .one 13 <| .one 14 <| .one 15 <| .one 16 <| .one 17 <| .done
 | _=>.done
@[go_sem] theorem zZx:zFu 1=(.one 0 <| .one 1 <| .one 2 <| .one 3 <| .one 4 <| .one 5 <| .one 6 <| .one 7 <| .one 8 <| .one 9 <| .one 10 <| .one 11 <| .one 12 <| .one 13 <| .one 14 <| .one 15 <| .one 16 <| .one 17 <| .done):=id rfl
def zJg (n:Nat):List Row:=
 match n with
 | 1=>[⟨8,2,0,1⟩,⟨16,8,1,2⟩,⟨32,16,2,1⟩,⟨64,32,4,0⟩,⟨128,66,8,1⟩,⟨256,192,24,2⟩,⟨512,320,40,1⟩,⟨1024,576,72,0⟩,⟨2048,1024,136,0⟩,⟨4096,2050,256,1⟩,⟨8192,2050,256,1⟩,⟨16384,10240,1280,2⟩,⟨32768,22528,2816,1⟩,⟨65536,34816,4352,2⟩,⟨131072,2050,256,2⟩,⟨262144,198656,24832,1⟩,⟨524288,264192,33024,0⟩,⟨4,524288,131071,0⟩]
 | _=>[]
theorem zRG:Ent 298 Tryz.f298 zFu [.tmp 2] 20:=ent zJg Tryz.func298 Tryz.results298 Tryz.ntmps298 (by kernel_rfl)
theorem zJY:Ent 300 Tryz.f300 pl0 [.tmp 2] 11:=ent tb0 Tryz.func300 Tryz.results300 Tryz.ntmps300 (by kernel_rfl)
theorem zKi:Ent 304 Tryz.f304 pl0 [.cell 2 114] 12:=ent tb0 Tryz.func304 Tryz.results304 Tryz.ntmps304 (by kernel_rfl)
theorem zGY:Ent 329 Tryz.f329 pl0 [.tmp 2] 6:=ent tb0 Tryz.func329 Tryz.results329 Tryz.ntmps329 (by kernel_rfl)
theorem zMI:Ent 330 Tryz.f330 pl0 [.tmp 2] 20:=ent tb0 Tryz.func330 Tryz.results330 Tryz.ntmps330 (by kernel_rfl)
def zFk (n:Nat):zL:=
 match n with
 | 4=>.one 0 <| .one 1 <| .one 2 <| .one 3 <| .one 4 <| .one 5 <| .one 6 <| .one 7 <| .one 8 <| .one 9 <| .one 10 <| .one 11 <| .one 12 <| .one 13 <| .one 14 <| .one 15 <| .one 16 <| .one 17 <| .one 18 <| .one 19 <| .one 20 <| .one 21 <| .one 22 <| .one 23 <| .one 24 <| .one 25 <| .done
 | _=>.done
@[go_sem] theorem zWk:zFk 4=(.one 0 <| .one 1 <| .one 2 <| .one 3 <| .one 4 <| .one 5 <| .one 6 <| .one 7 <| .one 8 <| .one 9 <| .one 10 <| .one 11 <| .one 12 <| .one 13 <| .one 14 <| .one 15 <| .one 16 <| .one 17 <| .one 18 <| .one 19 <| .one 20 <| .one 21 <| .one 22 <| .one 23 <| .one 24 <| .one 25 <| .done):=id rfl
def zIM (n:Nat):List Row:=
 match n with
 | 4=>[⟨4096,16,0,1⟩,⟨8192,4096,1,2⟩,⟨16384,8192,2,0⟩,⟨32768,16384,4,0⟩,⟨65536,32768,12,0⟩,⟨131072,65552,16,1⟩,⟨262144,196608,48,2⟩,⟨524288,327680,80,0⟩,⟨1048576,589824,144,0⟩,⟨2097152,1114112,272,0⟩,⟨4194304,2097152,640,0⟩,⟨8388608,4194312,1024,0⟩,⟨16777216,12582912,3072,1⟩,⟨33554432,20971520,5120,0⟩,⟨67108864,33554433,8192,0⟩,⟨134217728,33554440,8192,0⟩,⟨268435456,167772160,40960,1⟩,⟨536870912,369098752,90112,1⟩,⟨1073741824,570425344,139264,1⟩,⟨2147483648,1107296256,270336,2⟩,⟨4294967296,33554448,8192,1⟩,⟨8589934592,4328521728,1056768,2⟩,⟨17179869184,10770972672,2629632,0⟩,⟨34359738368,17213423616,4202496,1⟩,⟨68719476736,34397487104,8397824,0⟩,⟨137438953472,68723671040,16778240,0⟩]
 | _=>[]
theorem zSB:Ent 331 Tryz.f331 zFk [.tmp 2] 39:=ent zIM Tryz.func331 Tryz.results331 Tryz.ntmps331 (by kernel_rfl)
theorem zQG:Ent 332 Tryz.f332 pl0 [.tmp 2] 6:=ent tb0 Tryz.func332 Tryz.results332 Tryz.ntmps332 (by kernel_rfl)
theorem zJj:Ent 333 Tryz.f333 pl0 [.tmp 2] 19:=ent tb0 Tryz.func333 Tryz.results333 Tryz.ntmps333 (by kernel_rfl)
def zA9 (n:Nat):zL:=
 match n with
 | 12=>.one 0 <| .one 1 <| .one 2 <| .one 3 <| .one 4 <| .one 5 <| .one 6 <| .one 7 <| .one 8 <| .one 9 <| .one 10 <| .one 11 <| .one 12 <| .one 13 <| .one 14 <| .one 15 <| .one 16 <| .done
 | _=>.done
@[go_sem] theorem zTt:zA9 12=(.one 0 <| .one 1 <| .one 2 <| .one 3 <| .one 4 <| .one 5 <| .one 6 <| .one 7 <| .one 8 <| .one 9 <| .one 10 <| .one 11 <| .one 12 <| .one 13 <| .one 14 <| .one 15 <| .one 16 <| .done):=id rfl
def zHq (n:Nat):List Row:=
 match n with
 | 12=>[⟨9007199254740992,256,0,2⟩,⟨18014398509481984,9007199254740992,1,0⟩,⟨36028797018963968,18014398509481984,2,0⟩,⟨72057594037927936,36028797018963968,6,0⟩,⟨144115188075855872,72057594037928064,8,0⟩,⟨288230376151711744,216172782113783808,24,1⟩,⟨576460752303423488,360287970189639680,40,0⟩,⟨1152921504606846976,576460752303423490,64,0⟩,⟨2305843009213693952,576460752303423616,64,0⟩,⟨4611686018427387904,2882303761517117440,320,1⟩,⟨9223372036854775808,6341068275337658368,704,1⟩,⟨18446744073709551616,9799832789158199296,1088,2⟩,⟨36893488147419103232,576460752303423744,64,2⟩,⟨73786976294838206464,55916692973432078336,6208,0⟩,⟨147573952589676412928,74363437047141629952,8256,1⟩,⟨295147905179352825856,148222470936017764352,16456,0⟩,⟨590295810358705651712,295219962773390753792,32776,0⟩]
 | _=>[]
theorem zPt:Ent 334 Tryz.f334 zA9 [.tmp 4] 71:=ent zHq Tryz.func334 Tryz.results334 Tryz.ntmps334 (by kernel_rfl)
def zBp (n:Nat):zL:=
 match n with
 | 4=>.one 0 <| .one 1 <| .one 2 <| .one 3 <| .one 4 <| .one 5 <| .one 6 <| .one 7 <| .one 8 <| .one 9 <| .one 10 <| .one 11 <| .one 12 <| .one 13 <| .one 14 <| .one 15 <| .one 16 <| .one 17 <| .one 18 <| .done
 | _=>.done
@[go_sem] theorem zYu:zBp 4=(.one 0 <| .one 1 <| .one 2 <| .one 3 <| .one 4 <| .one 5 <| .one 6 <| .one 7 <| .one 8 <| .one 9 <| .one 10 <| .one 11 <| .one 12 <| .one 13 <| .one 14 <| .one 15 <| .one 16 <| .one 17 <| .one 18 <| .done):=id rfl
def zQV (n:Nat):List Row:=
 match n with
 | 4=>[⟨4096,16,0,2⟩,⟨8192,4096,1,0⟩,⟨16384,8192,2,0⟩,⟨32768,16384,6,0⟩,⟨65536,32776,8,0⟩,⟨131072,98304,24,1⟩,⟨262144,163840,40,0⟩,⟨524288,262145,64,0⟩,⟨1048576,262152,64,0⟩,⟨2097152,1310720,320,1⟩,⟨4194304,2883584,704,1⟩,⟨8388608,4456448,1088,1⟩,⟨16777216,8650752,2112,2⟩,⟨33554432,262160,64,1⟩,⟨67108864,33816576,8256,2⟩,⟨134217728,84148224,20544,0⟩,⟨268435456,134479872,32832,1⟩,⟨536870912,268730368,65608,0⟩,⟨1073741824,536903680,131080,0⟩]
 | _=>[]
theorem zJ7:Ent 335 Tryz.f335 zBp [.tmp 2] 32:=ent zQV Tryz.func335 Tryz.results335 Tryz.ntmps335 (by kernel_rfl)
end Go.Proofs.YtbmibhjjogobhaaGreat
