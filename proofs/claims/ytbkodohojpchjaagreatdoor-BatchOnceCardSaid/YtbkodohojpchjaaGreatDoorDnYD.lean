import Derived.Test.YtbkodohojpchjaaGreatDoorDnYTab
import Derived.Test.YtbkodohojpchjaaGreatDoorDnC
import Derived.Test.YtbkodohojpchjaaGreatDoorDnD
import Derived.Test.YtbkodohojpchjaaGreatDoorDnYT
import Derived.KernelRfl
import Derived.Test.YtbkodohojpchjaaGreatDoorProg
/- Plain functions. Conditions: none. -/
set_option linter.unusedVariables false
set_option linter.unusedSimpArgs false
open Go.IntKind renaming wrap→bN,bits→AS
open Int renaming toNat→sh,fdiv→IT
open Nat renaming beq→AI,le_of_ble_eq_true→IN,eq_of_beq_eq_true→No
open Go.Extern.SlicesOverlaps renaming overlaps→AT
open List renaming drop→By,take→BY,replicate→aaG
open Go.Shelf renaming Ren→OF
open Go.Op renaming bytesLess→aaW
open Go.Proofs.Lays renaming n146→aa6,n160→abK,n151→abL
open Go Dn Go.Proofs
set_option maxRecDepth 100000
namespace Dn.S
noncomputable section
theorem n7:ia Tryz.prog (yz PI):=NM (by kernel_rfl)
theorem Uw:RD Tryz.prog (yz PI):=VI (by kernel_rfl)
theorem vH:Tryz.prog.follows .mixedOrders=true:=by kernel_rfl
def oIB {R:Type}(k0:IntKind)(l0:List MV)(K:Int->Bool->Option R):Option R:=gC l0 λm0 l1=>gI k0 m0 λx0=>gC l1 λm1 l2=>gB m1 λx1=>gN l2<|K x0 x1
def We {R:Type}(k0 k1:IntKind)(l0:List MV)(K:Int->Int->Option R):Option R:=gC l0 λm0 l1=>gI k0 m0 λx0=>gC l1 λm1 l2=>gI k1 m1 λx1=>gN l2<|K x0 x1
def ahr {R:Type}(k0 k1 k2:IntKind)(l0:List MV)(K:Int->Int->Int->Option R):Option R:=gC l0 λm0 l1=>gI k0 m0 λx0=>gC l1 λm1 l2=>gI k1 m1 λx1=>gC l2 λm2 l3=>gI k2 m2 λx2=>gN l3<|K x0 x1 x2
def Ux {R:Type}(k0 k1 k2 k4:IntKind)(l0:List MV)(K:Int->Int->Int->List UInt8->Int->List MV->Option R):Option R:=gC l0 λm0 l1=>gI k0 m0 λx0=>gC l1 λm1 l2=>gI k1 m1 λx1=>gC l2 λm2 l3=>gI k2 m2 λx2=>gC l3 λm3 l4=>gS m3 λx3=>gC l4 λm4 l5=>gI k4 m4 λx4=>gC l5 λm5 l6=>gL m5 λx5=>gN l6<|K x0 x1 x2 x3 x4 x5
def Mk {R:Type}(k0 k1 k2 k5 k6 k7:IntKind)(l0:List MV)(K:Int->Int->Int->List UInt8->List UInt8->Int->Int->Int->Option R):Option R:=gC l0 λm0 l1=>gI k0 m0 λx0=>gC l1 λm1 l2=>gI k1 m1 λx1=>gC l2 λm2 l3=>gI k2 m2 λx2=>gC l3 λm3 l4=>gS m3 λx3=>gC l4 λm4 l5=>gS m4 λx4=>gC l5 λm5 l6=>gI k5 m5 λx5=>gC l6 λm6 l7=>gI k6 m6 λx6=>gC l7 λm7 l8=>gI k7 m7 λx7=>gN l8<|K x0 x1 x2 x3 x4 x5 x6 x7
def oIL {R:Type}(k0:IntKind)(l0:List MV)(K:Int->List MV->Option R):Option R:=gC l0 λm0 l1=>gI k0 m0 λx0=>gC l1 λm1 l2=>gL m1 λx1=>gN l2<|K x0 x1
def oLI {R:Type}(k1:IntKind)(l0:List MV)(K:List MV->Int->Option R):Option R:=gC l0 λm0 l1=>gL m0 λx0=>gC l1 λm1 l2=>gI k1 m1 λx1=>gN l2<|K x0 x1
def aao {R:Type}(k1:IntKind)(l0:List MV)(K:List MV->Int->List MV->List MV->List MV->Option R):Option R:=gC l0 λm0 l1=>gL m0 λx0=>gC l1 λm1 l2=>gI k1 m1 λx1=>gC l2 λm2 l3=>gL m2 λx2=>gC l3 λm3 l4=>gL m3 λx3=>gC l4 λm4 l5=>gL m4 λx4=>gN l5<|K x0 x1 x2 x3 x4
def cP {R:Type}(k1 k5 k6 k7 k10 k11 k12 k13 k14 k15 k17:IntKind)(l0:List MV)(K:List MV->Int->List MV->List MV->List MV->Int->Int->Int->List UInt8->List UInt8->Int->Int->Int->Int->Int->Int->List UInt8->Int->List MV->List MV->Option R):Option R:=gC l0 λm0 l1=>gL m0 λx0=>gC l1 λm1 l2=>gI k1 m1 λx1=>gC l2 λm2 l3=>gL m2 λx2=>gC l3 λm3 l4=>gL m3 λx3=>gC l4 λm4 l5=>gL m4 λx4=>gC l5 λm5 l6=>gI k5 m5 λx5=>gC l6 λm6 l7=>gI k6 m6 λx6=>gC l7 λm7 l8=>gI k7 m7 λx7=>gC l8 λm8 l9=>gS m8 λx8=>gC l9 λm9 l10=>gS m9 λx9=>gC l10 λWf l11=>gI k10 Wf λGk=>gC l11 λm11 l12=>gI k11 m11 λIr=>gC l12 λm12 l13=>gI k12 m12 λIs=>gC l13 λWg l14=>gI k13 Wg λIt=>gC l14 λm14 l15=>gI k14 m14 λIu=>gC l15 λm15 l16=>gI k15 m15 λGW=>gC l16 λm16 l17=>gS m16 λIv=>gC l17 λm17 l18=>gI k17 m17 λFM=>gC l18 λm18 l19=>gL m18 λIw=>gC l19 λm19 l20=>gL m19 λKq=>gN l20<|K x0 x1 x2 x3 x4 x5 x6 x7 x8 x9 Gk Ir Is It Iu GW Iv FM Iw Kq
def akW {R:Type}(k1:IntKind)(l0:List MV)(K:List UInt8->Int->Bool->Option R):Option R:=gC l0 λm0 l1=>gS m0 λx0=>gC l1 λm1 l2=>gI k1 m1 λx1=>gC l2 λm2 l3=>gB m2 λx2=>gN l3<|K x0 x1 x2
def afL {R:Type}(k2 k3:IntKind)(l0:List MV)(K:List UInt8->List UInt8->Int->Int->Option R):Option R:=gC l0 λm0 l1=>gS m0 λx0=>gC l1 λm1 l2=>gS m1 λx1=>gC l2 λm2 l3=>gI k2 m2 λx2=>gC l3 λm3 l4=>gI k3 m3 λx3=>gN l4<|K x0 x1 x2 x3
abbrev cL {R:Type}:= @Mk R .i64 .i64 .i64 .i64 .i64 .i64
abbrev iD {R:Type}:= @Ux R .i64 .i64 .i64 .i64
abbrev jII {R:Type}:= @We R .i64 .i64
abbrev Uy {R:Type}:= @oIB R .i64
abbrev mc {R:Type}:= @aao R .i64
abbrev aO {R:Type}:= @cP R .i64 .i64 .i64 .i64 .i64 .i64 .i64 .i64 .i64 .i64 .i64
abbrev Qi {R:Type}:= @ahr R .i64 .i64 .i64
abbrev Uz {R:Type}:= @oIL R .i64
abbrev qT {R:Type}:= @afL R .i64 .i64
abbrev Ix {R:Type}:= @oLI R .i64
abbrev Qj {R:Type}:= @akW R .i64
@[reducible] def jq (x0 : Int)(x1 : Int)(x2 : Int)(x3 : List UInt8)(x4 : Int)(x5 : List MV) : List MV := [.i .i64 x0, .i .i64 x1, .i .i64 x2, .s x3, .i .i64 x4, .list x5]
@[reducible] def bU (x0 : Int)(x1 : Int)(x2 : Int)(x3 : List UInt8)(x4 : List UInt8)(x5 : Int)(x6 : Int)(x7 : Int) : List MV := [.i .i64 x0, .i .i64 x1, .i .i64 x2, .s x3, .s x4, .i .i64 x5, .i .i64 x6, .i .i64 x7]
@[reducible] def fL (x0 : List MV)(x1 : Int)(x2 : List MV)(x3 : List MV)(x4 : List MV) : List MV := [.list x0, .i .i64 x1, .list x2, .list x3, .list x4]
@[reducible] def au (x0 : List MV)(x1 : Int)(x2 : List MV)(x3 : List MV)(x4 : List MV)(x5 : Int)(x6 : Int)(x7 : Int)(x8 : List UInt8)(x9 : List UInt8)(Gk : Int)(Ir : Int)(Is : Int)(It : Int)(Iu : Int)(GW : Int)(Iv : List UInt8)(FM : Int)(Iw : List MV)(Kq : List MV) : List MV := [.list x0, .i .i64 x1, .list x2, .list x3, .list x4, .i .i64 x5, .i .i64 x6, .i .i64 x7, .s x8, .s x9, .i .i64 Gk, .i .i64 Ir, .i .i64 Is, .i .i64 It, .i .i64 Iu, .i .i64 GW, .s Iv, .i .i64 FM, .list Iw, .list Kq]
@[reducible] def rP (x0 : List UInt8)(x1 : List UInt8)(x2 : Int)(x3 : Int) : List MV := [.s x0, .s x1, .i .i64 x2, .i .i64 x3]
def UA:List (Nat×qI)->Nat->qI
 |[],_=>default
 |(k,s)::r,t=>bif AI k t then s else UA r t
def aap:List (Nat×List Nat)->Nat->List Nat
 |[],_=>[]
 |(k,s)::r,t=>bif AI k t then s else aap r t
def aaq:List (Nat×Nat)->Nat->Nat
 |[],_=>0
 |(k,s)::r,t=>bif AI k t then s else aaq r t
def kk (n:Nat):Nat:=n
def gv (n:Nat):Bool:=bx [63,218,223,225,227,105,106,107,108,109,110,111,112,113,114,115,118,171,179] n
def frs (n:Nat):Bool:=bx [61,63,116,117,194,218,219,223,225,226,227,166,168,92,134,135,192,86,149,204,87,148] n
def afN:List (Nat×Nat):=[(61,57),(63,57),(116,75),(117,75),(194,9),(218,98),(219,98),(223,98),(225,126),(226,126),(227,126),(166,9),(168,9),(92,5),(134,5),(135,5),(192,5),(86,5),(149,5),(204,5),(87,5)]
def UB:List (Nat×FloatKind)->Nat->Option FloatKind
 |[],_=>none
 |(k,s)::r,t=>bif AI k t then some s else UB r t
def aar:List (Nat×FloatKind):=[]
theorem UC: ∀t k,UB aar t=some k->Tryz.prog.underlying t=some (.float k):=by intro t k h;cases h
def aas:List (Nat×(Nat×Bool)):=[]
def aat:List (Nat×(Nat×List LK))->Nat->Option (Nat×List LK)
 |[],_=>none
 |(k,s)::r,t=>bif AI k t then some s else aat r t
abbrev ko:List LK:=[.k (.l),.k (.i .i64),.k (.l),.k (.l),.k (.l),.k (.i .i64),.k (.i .i64),.k (.i .i64),.k (.s),.k (.s),.k (.i .i64),.k (.i .i64),.k (.i .i64),.k (.i .i64),.k (.i .i64),.k (.i .i64),.k (.s),.k (.i .i64),.k (.l),.own 2000019 77 false]
abbrev UD:List LK:=[.own 2000000 79 false]
def aau:List (Nat×(Nat×List LK)):=[(105,(0,ko)),(106,(0,ko)),(107,(0,ko)),(108,(0,ko)),(109,(0,ko)),(110,(0,ko)),(111,(0,ko)),(112,(0,ko)),(113,(0,ko)),(114,(0,ko)),(115,(0,ko)),(118,(2,UD)),(171,(0,ko)),(179,(0,ko))]
def dl (n:Nat):Bool:=bx [117] n
def cx:Ctx:=⟨yz PI,kk,λ_ _=>none,gv,frs,aaq afN,aat aau,[],0,[],[],λ_=>[],UB aar,HO aas,λ_=>[],λ_=>default,λ_=>default,λ_=>default,dl,[]⟩
def UE (g:Nat->List MV->Option MV)(par:List (Nat×Nat))(n:Nat)(bs fl:List Nat)(fz ord:List (Nat×List Nat))(D6 GG E9:List (Nat×qI))(dyn:List Nat):Ctx:=⟨yz PI,kk,g,gv,frs,aaq afN,aat aau,par,n,bs,fl,aap fz,UB aar,HO aas,aap ord,UA D6,UA GG,UA E9,dl,dyn⟩
theorem UF:Ek Tryz.prog cx:=R5 (l:=aas) (by kernel_rfl) (λ_ _ h=>h)
def iq (t:Nat):TI:=match yz PI t with|some I=>I|none=>⟨false,0,0,[],[],[],[],0,[]⟩
theorem tv9:cx.tv 9=some (iq 9):=by kernel_rfl
theorem ahu:cx.tv 22=some (iq 22):=by kernel_rfl
theorem ahv:cx.tv 25=some (iq 25):=by kernel_rfl
theorem apm:cx.tv 28=some (iq 28):=by kernel_rfl
theorem akX:cx.tv 31=some (iq 31):=by kernel_rfl
theorem akY:cx.tv 57=some (iq 57):=by kernel_rfl
theorem apn:cx.tv 75=some (iq 75):=by kernel_rfl
theorem ahw:cx.tv 98=some (iq 98):=by kernel_rfl
theorem aav:cx.tv 126=some (iq 126):=by kernel_rfl
theorem adY:NP Tryz.prog cx 117 75:=by
 have hE:cx.tv 75=some (iq 75):=by kernel_rfl
 refine adq (P:=Tryz.prog) (f:=117) (fi:=182) (t:=28) (ti:=3) (tb:=4) (fu:=191) (el:=75) (fn:=Tryz.f117) (fni:=Tryz.f182) (r:=(λk=>(([0,1,2,3,4,5,7,8,9,10,6,11,12]:List Nat)[k]?).getD 0)) (ri:=(λk=>(([0,1,2,3,4,5,6,7]:List Nat)[k]?).getD 0)) (o:=iR Tryz.f117 iS) (oi:=iR Tryz.f182 iS) ⟨Tryz.func117,by kernel_rfl,by kernel_rfl,by kernel_rfl,by kernel_rfl,?_,by kernel_rfl⟩ ⟨Tryz.func182,by kernel_rfl,by kernel_rfl,by kernel_rfl,by kernel_rfl,?_,by kernel_rfl⟩ n7 hE (by kernel_rfl) (IN (by kernel_rfl))
 ·constructor<;>exact ⟨by kernel_rfl,by kernel_rfl,by kernel_rfl⟩
 ·constructor<;>exact ⟨by kernel_rfl,by kernel_rfl,by kernel_rfl⟩
theorem GX:xB Tryz.prog cx:=by
 intro n hn;unfold cx dl bx at hn;cases afO:AI 117 n with
 |true=>have:=No afO;subst this;exact adY
 |false=>
 simp only [afO,cond_false] at hn;try unfold bx at hn
 cases hn
def FN:OF:=⟨λ|146=>194|221=>233|268=>252|138=>253|143=>254|195=>269|197=>270|218=>271|219=>272|260=>282|217=>283|225=>279|224=>278|267=>284|266=>286|314=>287|n=>n,λ|9=>9|31=>55|3=>3|4=>4|0=>0|105=>349|21=>21|5=>5|46=>226|119=>356|139=>359|138=>358|146=>327|51=>244|n=>n,λ|1=>0|3=>1|4=>2|n=>n⟩
theorem adZ:aa6 Tryz.prog FN:={
 mixed:=by kernel_rfl
 f138:=Tryz.func253.trans (congrArg some (by kernel_rfl))
 f143:=Tryz.func254.trans (congrArg some (by kernel_rfl))
 f146:=Tryz.func194.trans (congrArg some (by kernel_rfl))
 f195:=Tryz.func269.trans (congrArg some (by kernel_rfl))
 f197:=Tryz.func270.trans (congrArg some (by kernel_rfl))
 f217:=Tryz.func283.trans (congrArg some (by kernel_rfl))
 f218:=Tryz.func271.trans (congrArg some (by kernel_rfl))
 f219:=Tryz.func272.trans (congrArg some (by kernel_rfl))
 f221:=Tryz.func233.trans (congrArg some (by kernel_rfl))
 f224:=Tryz.func278.trans (congrArg some (by kernel_rfl))
 f225:=Tryz.func279.trans (congrArg some (by kernel_rfl))
 f260:=Tryz.func282.trans (congrArg some (by kernel_rfl))
 f266:=Tryz.func286.trans (congrArg some (by kernel_rfl))
 f267:=Tryz.func284.trans (congrArg some (by kernel_rfl))
 f268:=Tryz.func252.trans (congrArg some (by kernel_rfl))
 f314:=Tryz.func287.trans (congrArg some (by kernel_rfl))
 t0:=Tryz.underlying0
 a0:=Tryz.isAgg0
 z0:=Tryz.sizeOf0
 v0:=Tryz.zeroValue0
 t3:=Tryz.underlying3
 a3:=Tryz.isAgg3
 z3:=Tryz.sizeOf3
 v3:=Tryz.zeroValue3
 t4:=Tryz.underlying4
 a4:=Tryz.isAgg4
 z4:=Tryz.sizeOf4
 v4:=Tryz.zeroValue4
 t5:=Tryz.underlying5
 a5:=Tryz.isAgg5
 z5:=Tryz.sizeOf5
 v5:=Tryz.zeroValue5
 t9:=Tryz.underlying9
 a9:=Tryz.isAgg9
 z9:=Tryz.sizeOf9
 v9:=Tryz.zeroValue9
 t21:=Tryz.underlying21
 a21:=Tryz.isAgg21
 z21:=Tryz.sizeOf21
 v21:=Tryz.zeroValue21
 t31:=Tryz.underlying55
 a31:=Tryz.isAgg55
 z31:=Tryz.sizeOf55
 v31:=Tryz.zeroValue55
 t46:=Tryz.underlying226
 a46:=Tryz.isAgg226
 z46:=Tryz.sizeOf226
 v46:=Tryz.zeroValue226
 t51:=Tryz.underlying244
 a51:=Tryz.isAgg244
 z51:=Tryz.sizeOf244
 v51:=Tryz.zeroValue244
 t105:=Tryz.underlying349
 a105:=Tryz.isAgg349
 z105:=Tryz.sizeOf349
 v105:=Tryz.zeroValue349
 t119:=Tryz.underlying356
 a119:=Tryz.isAgg356
 z119:=Tryz.sizeOf356
 t138:=Tryz.underlying358
 a138:=Tryz.isAgg358
 z138:=Tryz.sizeOf358
 v138:=Tryz.zeroValue358
 t139:=Tryz.underlying359
 a139:=Tryz.isAgg359
 z139:=Tryz.sizeOf359
 v139:=Tryz.zeroValue359
 t146:=Tryz.underlying327
 a146:=Tryz.isAgg327
 z146:=Tryz.sizeOf327
 v146:=Tryz.zeroValue327
 g1:=by kernel_rfl
 g3:=by kernel_rfl
 g4:=by kernel_rfl}
def FO:OF:=⟨λ|160=>235|232=>256|231=>255|227=>257|234=>259|233=>258|236=>261|235=>260|228=>273|271=>274|151=>238|197=>270|120=>285|152=>263|260=>282|137=>276|119=>277|224=>278|225=>279|217=>283|266=>286|n=>n,λ|9=>9|4=>4|3=>3|5=>5|117=>341|116=>340|0=>0|124=>344|21=>21|105=>349|46=>226|119=>356|139=>359|138=>358|n=>n,λ|3=>1|4=>2|n=>n⟩
theorem ad0:abK Tryz.prog FO:={
 mixed:=by kernel_rfl
 f119:=Tryz.func277.trans (congrArg some (by kernel_rfl))
 f120:=Tryz.func285.trans (congrArg some (by kernel_rfl))
 f137:=Tryz.func276.trans (congrArg some (by kernel_rfl))
 f151:=Tryz.func238.trans (congrArg some (by kernel_rfl))
 f152:=Tryz.func263.trans (congrArg some (by kernel_rfl))
 f160:=Tryz.func235.trans (congrArg some (by kernel_rfl))
 f197:=Tryz.func270.trans (congrArg some (by kernel_rfl))
 f217:=Tryz.func283.trans (congrArg some (by kernel_rfl))
 f224:=Tryz.func278.trans (congrArg some (by kernel_rfl))
 f225:=Tryz.func279.trans (congrArg some (by kernel_rfl))
 f227:=Tryz.func257.trans (congrArg some (by kernel_rfl))
 f228:=Tryz.func273.trans (congrArg some (by kernel_rfl))
 f231:=Tryz.func255.trans (congrArg some (by kernel_rfl))
 f232:=Tryz.func256.trans (congrArg some (by kernel_rfl))
 f233:=Tryz.func258.trans (congrArg some (by kernel_rfl))
 f234:=Tryz.func259.trans (congrArg some (by kernel_rfl))
 f235:=Tryz.func260.trans (congrArg some (by kernel_rfl))
 f236:=Tryz.func261.trans (congrArg some (by kernel_rfl))
 f260:=Tryz.func282.trans (congrArg some (by kernel_rfl))
 f266:=Tryz.func286.trans (congrArg some (by kernel_rfl))
 f271:=Tryz.func274.trans (congrArg some (by kernel_rfl))
 t0:=Tryz.underlying0
 a0:=Tryz.isAgg0
 z0:=Tryz.sizeOf0
 v0:=Tryz.zeroValue0
 t3:=Tryz.underlying3
 a3:=Tryz.isAgg3
 z3:=Tryz.sizeOf3
 v3:=Tryz.zeroValue3
 t4:=Tryz.underlying4
 a4:=Tryz.isAgg4
 z4:=Tryz.sizeOf4
 v4:=Tryz.zeroValue4
 t5:=Tryz.underlying5
 a5:=Tryz.isAgg5
 z5:=Tryz.sizeOf5
 v5:=Tryz.zeroValue5
 t9:=Tryz.underlying9
 a9:=Tryz.isAgg9
 z9:=Tryz.sizeOf9
 v9:=Tryz.zeroValue9
 t21:=Tryz.underlying21
 a21:=Tryz.isAgg21
 z21:=Tryz.sizeOf21
 v21:=Tryz.zeroValue21
 t46:=Tryz.underlying226
 a46:=Tryz.isAgg226
 z46:=Tryz.sizeOf226
 v46:=Tryz.zeroValue226
 t105:=Tryz.underlying349
 a105:=Tryz.isAgg349
 z105:=Tryz.sizeOf349
 v105:=Tryz.zeroValue349
 t116:=Tryz.underlying340
 a116:=Tryz.isAgg340
 z116:=Tryz.sizeOf340
 t117:=Tryz.underlying341
 a117:=Tryz.isAgg341
 z117:=Tryz.sizeOf341
 v117:=Tryz.zeroValue341
 t119:=Tryz.underlying356
 a119:=Tryz.isAgg356
 z119:=Tryz.sizeOf356
 t124:=Tryz.underlying344
 a124:=Tryz.isAgg344
 z124:=Tryz.sizeOf344
 v124:=Tryz.zeroValue344
 t138:=Tryz.underlying358
 a138:=Tryz.isAgg358
 z138:=Tryz.sizeOf358
 v138:=Tryz.zeroValue358
 t139:=Tryz.underlying359
 a139:=Tryz.isAgg359
 z139:=Tryz.sizeOf359
 v139:=Tryz.zeroValue359
 g3:=by kernel_rfl
 g4:=by kernel_rfl}
def FP:OF:=⟨λ|151=>238|152=>263|137=>276|119=>277|224=>278|225=>279|217=>283|266=>286|n=>n,λ|9=>9|21=>21|4=>4|3=>3|5=>5|0=>0|46=>226|n=>n,λ|n=>n⟩
theorem ad1:abL Tryz.prog FP:={
 mixed:=by kernel_rfl
 f119:=Tryz.func277.trans (congrArg some (by kernel_rfl))
 f137:=Tryz.func276.trans (congrArg some (by kernel_rfl))
 f151:=Tryz.func238.trans (congrArg some (by kernel_rfl))
 f152:=Tryz.func263.trans (congrArg some (by kernel_rfl))
 f217:=Tryz.func283.trans (congrArg some (by kernel_rfl))
 f224:=Tryz.func278.trans (congrArg some (by kernel_rfl))
 f225:=Tryz.func279.trans (congrArg some (by kernel_rfl))
 f266:=Tryz.func286.trans (congrArg some (by kernel_rfl))
 t0:=Tryz.underlying0
 a0:=Tryz.isAgg0
 z0:=Tryz.sizeOf0
 v0:=Tryz.zeroValue0
 t3:=Tryz.underlying3
 a3:=Tryz.isAgg3
 z3:=Tryz.sizeOf3
 v3:=Tryz.zeroValue3
 t4:=Tryz.underlying4
 a4:=Tryz.isAgg4
 z4:=Tryz.sizeOf4
 v4:=Tryz.zeroValue4
 t5:=Tryz.underlying5
 a5:=Tryz.isAgg5
 z5:=Tryz.sizeOf5
 v5:=Tryz.zeroValue5
 t9:=Tryz.underlying9
 a9:=Tryz.isAgg9
 z9:=Tryz.sizeOf9
 v9:=Tryz.zeroValue9
 t21:=Tryz.underlying21
 a21:=Tryz.isAgg21
 z21:=Tryz.sizeOf21
 v21:=Tryz.zeroValue21
 t46:=Tryz.underlying226
 a46:=Tryz.isAgg226
 z46:=Tryz.sizeOf226
 v46:=Tryz.zeroValue226}
abbrev GT:=Nat->List MV->Option MV
abbrev SG (g:GT):Prop:=jT Tryz.prog cx g
theorem ad2 {g:GT}(h:SG g):SG (bp 194 Ab g):=h.Gi (λ_=>rfl) (λms r hr=>aak (P:=Tryz.prog) (ρ:=FN) (c:=cx) adZ (by kernel_rfl) (by kernel_rfl) (by kernel_rfl) tv9 (by kernel_rfl) hr)
theorem ad3 {g:GT}(h:SG g):SG (bp 235 Im g):=h.Gi (λ_=>rfl) (λms r hr=>adQ (P:=Tryz.prog) (ρ:=FO) (c:=cx) ad0 (by kernel_rfl) (by kernel_rfl) hr)
theorem ad4 {g:GT}(h:SG g):SG (bp 238 s6 g):=h.Gi (λ_=>rfl) (λms r hr=>Sq (P:=Tryz.prog) (ρ:=FP) (c:=cx) ad1 (by kernel_rfl) hr)
theorem ahx {g:GT}(h:SG g):SG (bp 61 (gy 6 72) g):=h.Gi (λ_=>rfl) (λms r hr=>by obtain ⟨xs,rfl,rfl,h1,h2⟩:=uV hr;exact C8 (P:=Tryz.prog) (c:=cx) (f:=61) (fn:=Tryz.f61) (t:=31) (I:=iq 31) (E:=iq 57) (i0:=0) (i1:=1) (i2:=2) (i3:=3) (oA:=iR Tryz.f61 iS 0) (oB:=iR Tryz.f61 iS 1) (oC:=iR Tryz.f61 iS 2) (oD:=iR Tryz.f61 iS 3) (oE:=iR Tryz.f61 iS 4) (oF:=iR Tryz.f61 iS 5) (oG:=iR Tryz.f61 iS 6) (oH:=iR Tryz.f61 iS 7) n7 akX (by kernel_rfl) akY (IN (by kernel_rfl)) (by kernel_rfl) (by kernel_rfl) Tryz.func61 (by kernel_rfl) (by kernel_rfl) (by kernel_rfl) (by kernel_rfl) ⟨by kernel_rfl,by kernel_rfl,by kernel_rfl⟩ ⟨by kernel_rfl,by kernel_rfl,by kernel_rfl⟩ ⟨by kernel_rfl,by kernel_rfl,by kernel_rfl⟩ ⟨by kernel_rfl,by kernel_rfl,by kernel_rfl⟩ ⟨by kernel_rfl,by kernel_rfl,by kernel_rfl⟩ ⟨by kernel_rfl,by kernel_rfl,by kernel_rfl⟩ ⟨by kernel_rfl,by kernel_rfl,by kernel_rfl⟩ ⟨by kernel_rfl,by kernel_rfl,by kernel_rfl⟩ (by rw [show (iq 57).size=6 by kernel_rfl];exact h1) (by rw [show (iq 57).bytes=72 by kernel_rfl];exact h2))
theorem akZ:H0 Tryz.prog 63 31 3 4 57 122 Tryz.f63 (λk=>k) (iR Tryz.f63 iS) (N5 (iR Tryz.f63 iS)):=by refine ⟨Tryz.func63,by kernel_rfl,by kernel_rfl,by kernel_rfl,by kernel_rfl,?_,vH,by kernel_rfl⟩;constructor<;>first|exact ⟨by kernel_rfl,by kernel_rfl,by kernel_rfl⟩|kernel_rfl
theorem apo: ∀args w,(callFunc 122 args).run Tryz.prog w=((AT #[31,31] #[4] args).run Tryz.prog w).andThen λv w'=> .ok (.value v) w':=λargs w=>run_callFunc_extern Tryz.func122 (by kernel_rfl) (by kernel_rfl) (by kernel_rfl) (e:=AT #[31,31] #[4]) (by kernel_rfl) args w
theorem ahy {g:GT}(h:SG g):SG (bp 63 (kz 72) g):=h.Gi (λ_=>rfl) (λms r hr=>by obtain ⟨xs,ys,i,rfl,rfl,h1,h2,h3⟩:=xD hr;exact Et (P:=Tryz.prog) (c:=cx) (I:=iq 31) (E:=iq 57) akZ n7 akX (by kernel_rfl) akY (IN (by kernel_rfl)) (by kernel_rfl) (by kernel_rfl) (by kernel_rfl) (by kernel_rfl) apo h1 h2 (by rw [show (iq 57).bytes=72 by kernel_rfl];exact h3))
theorem ad5 {g:GT}(h:SG g):SG (bp 116 (gy 3 32) g):=h.Gi (λ_=>rfl) (λms r hr=>by obtain ⟨xs,rfl,rfl,h1,h2⟩:=uV hr;exact C8 (P:=Tryz.prog) (c:=cx) (f:=116) (fn:=Tryz.f116) (t:=28) (I:=iq 28) (E:=iq 75) (i0:=0) (i1:=1) (i2:=2) (i3:=3) (oA:=iR Tryz.f116 iS 0) (oB:=iR Tryz.f116 iS 1) (oC:=iR Tryz.f116 iS 2) (oD:=iR Tryz.f116 iS 3) (oE:=iR Tryz.f116 iS 4) (oF:=iR Tryz.f116 iS 5) (oG:=iR Tryz.f116 iS 6) (oH:=iR Tryz.f116 iS 7) n7 apm (by kernel_rfl) apn (IN (by kernel_rfl)) (by kernel_rfl) (by kernel_rfl) Tryz.func116 (by kernel_rfl) (by kernel_rfl) (by kernel_rfl) (by kernel_rfl) ⟨by kernel_rfl,by kernel_rfl,by kernel_rfl⟩ ⟨by kernel_rfl,by kernel_rfl,by kernel_rfl⟩ ⟨by kernel_rfl,by kernel_rfl,by kernel_rfl⟩ ⟨by kernel_rfl,by kernel_rfl,by kernel_rfl⟩ ⟨by kernel_rfl,by kernel_rfl,by kernel_rfl⟩ ⟨by kernel_rfl,by kernel_rfl,by kernel_rfl⟩ ⟨by kernel_rfl,by kernel_rfl,by kernel_rfl⟩ ⟨by kernel_rfl,by kernel_rfl,by kernel_rfl⟩ (by rw [show (iq 75).size=3 by kernel_rfl];exact h1) (by rw [show (iq 75).bytes=32 by kernel_rfl];exact h2))
theorem ahz:H0 Tryz.prog 218 22 3 4 98 246 Tryz.f218 (λk=>k) (iR Tryz.f218 iS) (N5 (iR Tryz.f218 iS)):=by refine ⟨Tryz.func218,by kernel_rfl,by kernel_rfl,by kernel_rfl,by kernel_rfl,?_,vH,by kernel_rfl⟩;constructor<;>first|exact ⟨by kernel_rfl,by kernel_rfl,by kernel_rfl⟩|kernel_rfl
theorem ak0: ∀args w,(callFunc 246 args).run Tryz.prog w=((AT #[22,22] #[4] args).run Tryz.prog w).andThen λv w'=> .ok (.value v) w':=λargs w=>run_callFunc_extern Tryz.func246 (by kernel_rfl) (by kernel_rfl) (by kernel_rfl) (e:=AT #[22,22] #[4]) (by kernel_rfl) args w
theorem ad6 {g:GT}(h:SG g):SG (bp 218 (kz 48) g):=h.Gi (λ_=>rfl) (λms r hr=>by obtain ⟨xs,ys,i,rfl,rfl,h1,h2,h3⟩:=xD hr;exact Et (P:=Tryz.prog) (c:=cx) (I:=iq 22) (E:=iq 98) ahz n7 ahu (by kernel_rfl) ahw (IN (by kernel_rfl)) (by kernel_rfl) (by kernel_rfl) (by kernel_rfl) (by kernel_rfl) ak0 h1 h2 (by rw [show (iq 98).bytes=48 by kernel_rfl];exact h3))
theorem ad7 {g:GT}(h:SG g):SG (bp 219 (gy 4 48) g):=h.Gi (λ_=>rfl) (λms r hr=>by obtain ⟨xs,rfl,rfl,h1,h2⟩:=uV hr;exact C8 (P:=Tryz.prog) (c:=cx) (f:=219) (fn:=Tryz.f219) (t:=22) (I:=iq 22) (E:=iq 98) (i0:=0) (i1:=1) (i2:=2) (i3:=3) (oA:=iR Tryz.f219 iS 0) (oB:=iR Tryz.f219 iS 1) (oC:=iR Tryz.f219 iS 2) (oD:=iR Tryz.f219 iS 3) (oE:=iR Tryz.f219 iS 4) (oF:=iR Tryz.f219 iS 5) (oG:=iR Tryz.f219 iS 6) (oH:=iR Tryz.f219 iS 7) n7 ahu (by kernel_rfl) ahw (IN (by kernel_rfl)) (by kernel_rfl) (by kernel_rfl) Tryz.func219 (by kernel_rfl) (by kernel_rfl) (by kernel_rfl) (by kernel_rfl) ⟨by kernel_rfl,by kernel_rfl,by kernel_rfl⟩ ⟨by kernel_rfl,by kernel_rfl,by kernel_rfl⟩ ⟨by kernel_rfl,by kernel_rfl,by kernel_rfl⟩ ⟨by kernel_rfl,by kernel_rfl,by kernel_rfl⟩ ⟨by kernel_rfl,by kernel_rfl,by kernel_rfl⟩ ⟨by kernel_rfl,by kernel_rfl,by kernel_rfl⟩ ⟨by kernel_rfl,by kernel_rfl,by kernel_rfl⟩ ⟨by kernel_rfl,by kernel_rfl,by kernel_rfl⟩ (by rw [show (iq 98).size=4 by kernel_rfl];exact h1) (by rw [show (iq 98).bytes=48 by kernel_rfl];exact h2))
theorem ahA:P2 Tryz.prog 223 22 3 98 Tryz.f223 (λk=>k) (iR Tryz.f223 iS):=by refine ⟨Tryz.func223,by kernel_rfl,by kernel_rfl,by kernel_rfl,by kernel_rfl,?_,vH,by kernel_rfl⟩;constructor<;>first|exact ⟨by kernel_rfl,by kernel_rfl,by kernel_rfl⟩|kernel_rfl
theorem ad8 {g:GT}(h:SG g):SG (bp 223 qt g):=h.Gi (λ_=>rfl) (λms r hr=>by obtain ⟨xs,i,j,rfl,rfl,h1,h2⟩:=Dd hr;exact Me (P:=Tryz.prog) (c:=cx) (I:=iq 22) (E:=iq 98) ahA n7 ahu (by kernel_rfl) ahw (by kernel_rfl) (by kernel_rfl) (by kernel_rfl) h1 h2)
theorem ahB:H0 Tryz.prog 225 25 3 4 126 248 Tryz.f225 (λk=>k) (iR Tryz.f225 iS) (N5 (iR Tryz.f225 iS)):=by refine ⟨Tryz.func225,by kernel_rfl,by kernel_rfl,by kernel_rfl,by kernel_rfl,?_,vH,by kernel_rfl⟩;constructor<;>first|exact ⟨by kernel_rfl,by kernel_rfl,by kernel_rfl⟩|kernel_rfl
theorem ak1: ∀args w,(callFunc 248 args).run Tryz.prog w=((AT #[25,25] #[4] args).run Tryz.prog w).andThen λv w'=> .ok (.value v) w':=λargs w=>run_callFunc_extern Tryz.func248 (by kernel_rfl) (by kernel_rfl) (by kernel_rfl) (e:=AT #[25,25] #[4]) (by kernel_rfl) args w
theorem ad9 {g:GT}(h:SG g):SG (bp 225 (kz 24) g):=h.Gi (λ_=>rfl) (λms r hr=>by obtain ⟨xs,ys,i,rfl,rfl,h1,h2,h3⟩:=xD hr;exact Et (P:=Tryz.prog) (c:=cx) (I:=iq 25) (E:=iq 126) ahB n7 ahv (by kernel_rfl) aav (IN (by kernel_rfl)) (by kernel_rfl) (by kernel_rfl) (by kernel_rfl) (by kernel_rfl) ak1 h1 h2 (by rw [show (iq 126).bytes=24 by kernel_rfl];exact h3))
theorem aea {g:GT}(h:SG g):SG (bp 226 (gy 3 24) g):=h.Gi (λ_=>rfl) (λms r hr=>by obtain ⟨xs,rfl,rfl,h1,h2⟩:=uV hr;exact C8 (P:=Tryz.prog) (c:=cx) (f:=226) (fn:=Tryz.f226) (t:=25) (I:=iq 25) (E:=iq 126) (i0:=0) (i1:=1) (i2:=2) (i3:=3) (oA:=iR Tryz.f226 iS 0) (oB:=iR Tryz.f226 iS 1) (oC:=iR Tryz.f226 iS 2) (oD:=iR Tryz.f226 iS 3) (oE:=iR Tryz.f226 iS 4) (oF:=iR Tryz.f226 iS 5) (oG:=iR Tryz.f226 iS 6) (oH:=iR Tryz.f226 iS 7) n7 ahv (by kernel_rfl) aav (IN (by kernel_rfl)) (by kernel_rfl) (by kernel_rfl) Tryz.func226 (by kernel_rfl) (by kernel_rfl) (by kernel_rfl) (by kernel_rfl) ⟨by kernel_rfl,by kernel_rfl,by kernel_rfl⟩ ⟨by kernel_rfl,by kernel_rfl,by kernel_rfl⟩ ⟨by kernel_rfl,by kernel_rfl,by kernel_rfl⟩ ⟨by kernel_rfl,by kernel_rfl,by kernel_rfl⟩ ⟨by kernel_rfl,by kernel_rfl,by kernel_rfl⟩ ⟨by kernel_rfl,by kernel_rfl,by kernel_rfl⟩ ⟨by kernel_rfl,by kernel_rfl,by kernel_rfl⟩ ⟨by kernel_rfl,by kernel_rfl,by kernel_rfl⟩ (by rw [show (iq 126).size=3 by kernel_rfl];exact h1) (by rw [show (iq 126).bytes=24 by kernel_rfl];exact h2))
theorem ahC:P2 Tryz.prog 227 25 3 126 Tryz.f227 (λk=>k) (iR Tryz.f227 iS):=by refine ⟨Tryz.func227,by kernel_rfl,by kernel_rfl,by kernel_rfl,by kernel_rfl,?_,vH,by kernel_rfl⟩;constructor<;>first|exact ⟨by kernel_rfl,by kernel_rfl,by kernel_rfl⟩|kernel_rfl
theorem aeb {g:GT}(h:SG g):SG (bp 227 qt g):=h.Gi (λ_=>rfl) (λms r hr=>by obtain ⟨xs,i,j,rfl,rfl,h1,h2⟩:=Dd hr;exact Me (P:=Tryz.prog) (c:=cx) (I:=iq 25) (E:=iq 126) ahC n7 ahv (by kernel_rfl) aav (by kernel_rfl) (by kernel_rfl) (by kernel_rfl) h1 h2)
def H61:GT:=bp 61 (gy 6 72) (λ_ _=>none)
theorem aaw:SG H61:=ahx (jT.none _ _)
def H63:GT:=bp 63 (kz 72) H61
theorem aax:SG H63:=ahy aaw
def ak2:GT:=bp 116 (gy 3 32) H63
theorem Wh:SG ak2:=ad5 aax
def ak3:GT:=bp 194 Ab ak2
theorem Wi:SG ak3:=ad2 Wh
def ak4:GT:=bp 218 (kz 48) ak3
theorem Wj:SG ak4:=ad6 Wi
def ak5:GT:=bp 219 (gy 4 48) ak4
theorem Wk:SG ak5:=ad7 Wj
def ak6:GT:=bp 223 qt ak5
theorem Wl:SG ak6:=ad8 Wk
def ak7:GT:=bp 225 (kz 24) ak6
theorem Wm:SG ak7:=ad9 Wl
def ak8:GT:=bp 226 (gy 3 24) ak7
theorem Wn:SG ak8:=aea Wm
def ak9:GT:=bp 227 qt ak8
theorem Wo:SG ak9:=aeb Wn
def ala:GT:=bp 235 Im ak9
theorem Wp:SG ala:=ad3 Wo
def alb:GT:=bp 238 s6 ala
theorem Wq:SG alb:=ad4 Wp
theorem Gl {g:GT}(s:SG g)(bV:List (List Kd))(par:List (Nat×Nat))(tn:Nat)(bs fl:List Nat)(fz ord:List (Nat×List Nat))(D6 GG E9:List (Nat×qI))(dyn:List Nat){n:Nat}{fn:Func}{F:List MV->Option MV}(hf:Tryz.prog.funcs[n]? =some fn)(hh:L5 (UE g par tn bs fl fz ord D6 GG E9 dyn) n fn bV=true)(hF: ∀{ms r},F ms=some r->Lp (UE g par tn bs fl fz ord D6 GG E9 dyn) bV none fn ms=some r):SG (bp n F g):=s.fn (c':=UE g par tn bs fl fz ord D6 GG E9 dyn) ⟨rfl,rfl,rfl,rfl,rfl,rfl,rfl,rfl,rfl⟩ rfl n7 Uw UC UF vH GX hf hh (λ_=>rfl) (fresh:=none) rfl hF
theorem nd {g:GT}(s:SG g)(bV:List (List Kd))(tn:Nat)(D6 GG E9:List (Nat×qI)){n:Nat}{fn:Func}{F:List MV->Option MV}(hf:Tryz.prog.funcs[n]? =some fn)(hh:L5 (UE g [] tn [] [] [] [] D6 GG E9 []) n fn bV=true)(hF: ∀{ms r},F ms=some r->Lp (UE g [] tn [] [] [] [] D6 GG E9 []) bV none fn ms=some r):SG (bp n F g):=Gl s bV [] tn [] [] [] [] D6 GG E9 [] hf hh hF
theorem Q8 {g:GT}(s:SG g)(pos:Nat)(ks:List LK)(bV:List (List Kd))(par:List (Nat×Nat))(tn:Nat)(bs fl:List Nat)(fz ord:List (Nat×List Nat))(D6 GG E9:List (Nat×qI))(dyn:List Nat){n:Nat}{fn:Func}{F:List MV->Option MV}(hf:Tryz.prog.funcs[n]? =some fn)(hs:cx.sig n=some (pos,ks))(hh:T6 (UE g par tn bs fl fz ord D6 GG E9 dyn) n fn bV=true)(hF: ∀{ms r},F ms=some r->Lo (UE g par tn bs fl fz ord D6 GG E9 dyn) bV pos ks fn ms=some r):SG (bp n F g):=s.Q8 n7 Uw UC UF vH GX hf hs (λ_=>rfl) λh=>⟨UE g par tn bs fl fz ord D6 GG E9 dyn,⟨rfl,rfl,rfl,rfl,rfl,rfl,rfl,rfl,rfl⟩,rfl,hh,hF h⟩
theorem fnF {g:GT}(s:SG g)(ty:Nat)(bV:List (List Kd))(par:List (Nat×Nat))(tn:Nat)(bs fl:List Nat)(fz ord:List (Nat×List Nat))(D6 GG E9:List (Nat×qI))(dyn:List Nat){n:Nat}{fn:Func}{F:List MV->Option MV}(hf:Tryz.prog.funcs[n]? =some fn)(hh:L5 (UE g par tn bs fl fz ord D6 GG E9 dyn) n fn bV=true)(zo:HY (UE g par tn bs fl fz ord D6 GG E9 dyn) n fn (some ty)=true)(hF: ∀{ms r},F ms=some r->Lp (UE g par tn bs fl fz ord D6 GG E9 dyn) bV (some ty) fn ms=some r):SG (bp n F g):=s.fn (c':=UE g par tn bs fl fz ord D6 GG E9 dyn) ⟨rfl,rfl,rfl,rfl,rfl,rfl,rfl,rfl,rfl⟩ rfl n7 Uw UC UF vH GX hf hh (λ_=>rfl) zo hF
abbrev Wr (d:List MV->Option MV):List MV->Option MV:=λms=>match ms with|[.cell (.func off a0)]=>(match AI off 0 with|true=>d a0|false=>none)|_=>none
theorem tz {d:List MV->Option MV}{B:List MV->Option MV}(h: ∀a0,B [.cell (.func 0 a0)]=d a0){ms:List MV}{r:MV}(e:Wr d ms=some r):B ms=some r:=by
 unfold Wr at e;split at e
 ·rename_i off a0;cases ho:AI off 0 with
  |true=>have:=No ho;subst this;exact (h _).trans e
  |false=>rw [ho] at e;cases e
 ·cases e
abbrev cl2 (d:List MV->MV->Option MV):List MV->Option MV:=λms=>match ms with|[.cell (.func off a0),a1]=>(match AI off 0 with|true=>d a0 a1|false=>none)|_=>none
theorem aay {d:List MV->MV->Option MV}{B:List MV->Option MV}(h: ∀a0 a1,B [.cell (.func 0 a0),a1]=d a0 a1){ms:List MV}{r:MV}(e:cl2 d ms=some r):B ms=some r:=by
 unfold cl2 at e;split at e
 ·rename_i off a0 a1;cases ho:AI off 0 with
  |true=>have:=No ho;subst this;exact (h _ _).trans e
  |false=>rw [ho] at e;cases e
 ·cases e
def nL (o:MV):Option MV:=gA o λcs=>
 cL cs λClient Seq Kind Path Value Version Session Span=>
 bB (decide (Kind=1)) (
 some (.agg (bU Client Seq Kind Path Value 0 Session 0))) (
 bd (
 bB (decide (Kind=2)) (
 some (0,[.b (decide (Kind=2))])) (
 bd (
 bB (decide (Kind=5)) (
 some (0,[.b (decide (Kind=5))])) (
 bd (
 bB (decide (Kind=10)) (
 some (0,[.b (decide (Kind=10))])) (
 some (0,[.b (decide (Kind=11))]))) λp2=>
 cJ (AI p2.1 0)<|
 gC p2.2 λm8 vI=>
 gB m8 λx=>
 gN vI<|
 some (0,[.b x]))) λp1=>
 cJ (AI p1.1 0)<|
 gC p1.2 λm9 Iy=>
 gB m9 λx1=>
 gN Iy<|
 some (0,[.b x1]))) λp=>
 cJ (AI p.1 0)<|
 gC p.2 λWf tA=>
 gB Wf λx2=>
 gN tA<|
 bB x2 (
 some (.agg (bU Client Seq Kind Path ([]:List UInt8) 0 0 0))) (
 bB (decide (Kind=3)) (
 some (.agg (bU Client Seq Kind Path Value Version 0 0))) (
 bB (decide (Kind=4)) (
 some (.agg (bU Client Seq Kind Path ([]:List UInt8) Version 0 0))) (
 bB (decide (Kind=6)) (
 some (.agg (bU Client Seq Kind ([]:List UInt8) ([]:List UInt8) 0 Session Span))) (
 bd (
 bB (decide (Kind=7)) (
 some (0,[.b (decide (Kind=7))])) (
 some (0,[.b (decide (Kind=8))]))) λp3=>
 cJ (AI p3.1 0)<|
 gC p3.2 λm11 Ad=>
 gB m11 λx3=>
 gN Ad<|
 bB x3 (
 some (.agg (bU Client Seq Kind ([]:List UInt8) ([]:List UInt8) 0 Session 0))) (
 bB (decide (Kind=9)) (
 some (.agg (bU Client Seq Kind ([]:List UInt8) ([]:List UInt8) 0 0 Span))) (
 some (.agg (bU Client Seq Kind ([]:List UInt8) ([]:List UInt8) 0 0 0)))))))))
def yA:GT:=bp 81 (sZ nL) alb
theorem Bl:SG yA:=Gl Wq [] [] 62 [] [34,36,49] [(1,[1])] [(14,[0,1,2,3,4,5,6,7,8,9,10,11]),(17,[0,1,2,3,4,5,6,7])] [] [(12,⟨[1,2,3,12],[],[],[(0,[(26,.sc (.k .b))])],[]⟩),(7,⟨[1,2,3,12],[],[],[(0,[(15,.sc (.k .b))])],[]⟩),(6,⟨[1,2,3,12],[],[],[(0,[(15,.sc (.k .b))])],[]⟩),(5,⟨[1,2,3,12],[],[],[(0,[(15,.sc (.k .b))])],[]⟩)] [] [] Tryz.func81 (by kernel_rfl) (fp (λ_=>by kernel_rfl))
def mH (o:MV):Option MV:=gA o λcs=>
 cL cs λClient Seq Kind Path Value Version Session Span=>
 bd (
 bB (decide ((0:Int)<=Client)) (
 bB (decide (Client<=1000)) (
 bB (decide ((1:Int)<=Seq)) (
 some [.b (decide (Seq<=1000000000))]) (
 some [.b false])) (
 some [.b false])) (
 some [.b false])) λvs=>
 gC vs λm8 vI=>
 gB m8 λwho=>
 gN vI<|
 bd (
 bB who (
 bB (decide ((0:Int)<=Kind)) (
 bB (decide (Kind<=11)) (
 bB (decide ((Path.length:Int)<=100)) (
 bB (decide ((Value.length:Int)<=1000)) (
 bd (nL (.agg (bU Client Seq Kind Path Value Version Session Span))) λrA=>
 gA rA λja=>
 cL ja λdN tC Qk lC fN cO Ae Af=>
 some [.b ((decide (Client=dN))&&((decide (Seq=tC))&&((decide (Kind=Qk))&&((decide (Path=lC))&&((decide (Value=fN))&&((decide (Version=cO))&&((decide (Session=Ae))&&(decide (Span=Af)))))))))]) (
 some [.b false])) (
 some [.b false])) (
 some [.b false])) (
 some [.b false])) (
 some [.b false])) λmQ=>
 gC mQ λm17 Ql=>
 gB m17 λx=>
 gN Ql<|
 some (.b x)
def Ml:GT:=bp 35 (sZ mH) yA
theorem KR:SG Ml:=Gl Bl [] [] 51 [] [] [] [(2,[0,1,2,3,4,5,6,7,8,9,10,11,12,13,14,15,16,17,18,19,20,21,22,23,24,25,26,27,28,29])] [(2,⟨[1,3],[],[],[(0,[(2,.sc (.k .b))])],[]⟩),(1,⟨[1],[],[],[(0,[(3,.sc (.k .b))])],[]⟩)] [] [] [] Tryz.func35 (by kernel_rfl) (fp (λ_=>by kernel_rfl))
def pg (x:MV):Option MV:=gI .i64 x λx1=>some (.b (!decide (x1=x1)))
def Dk:GT:=bp 183 (sZ pg) Ml
theorem EB:SG Dk:=nd KR [] 6 [] [] [] Tryz.func183 (by kernel_rfl) (fp (λ_=>by kernel_rfl))
def mf (x y:MV):Option MV:=gI .i64 x λx1=>
 gI .i64 y λy1=>
 bd (pg (.i .i64 x1)) λrA=>
 gB rA λx2=>
 bd (pg (.i .i64 y1)) λaY=>
 gB aY λx3=>
 bB x2 (
 bB x3 (
 some (.i .i64 0)) (
 some (.i .i64 (-1)))) (
 bB x3 (
 some (.i .i64 1)) (
 bB (decide (x1<y1)) (
 some (.i .i64 (-1))) (
 bB (decide (y1<x1)) (
 some (.i .i64 1)) (
 some (.i .i64 0)))))
def Ag:GT:=bp 121 (eE mf) Dk
theorem Cd:SG Ag:=nd EB [] 20 [] [] [] Tryz.func121 (by kernel_rfl) (bo (λ_ _=>by kernel_rfl))
def kF (x eF:MV):Option MV:=gA x λcs=>
 iD cs λClient Seq E Value Version Names=>
 gI .i64 eF λDl=>
 bd (mf (.i .i64 Client) (.i .i64 Dl)) λrA=>
 gI .i64 rA λx1=>
 some (.i .i64 x1)
def n8:GT:=bp 120 (eE kF) Ag
theorem xK:SG n8:=nd Cd [] 9 [] [] [] Tryz.func120 (by kernel_rfl) (bo (λ_ _=>by kernel_rfl))
def cF:GT:=n8
theorem gm (x0 x1:MV):cF 120 [x0,x1]=kF x0 x1:=by kernel_rfl
def cT (x target cmp:MV):Option MV:=gL x λx1=>
 gI .i64 target λuX=>
 gR cmp λQm=>
 bO x1 λlen=>
 bd (Loop (λir=>
 jII ir λi j=>
 bB (decide (i<j)) (
 cJ (decide ((0:Int)<=1))<|
 idx x1 (bN .i64 (IT (bN .u64 (bN .i64 (i+j))) (2^min (sh 1) (AS .u64)))) λy=>
 gA y λcs=>
 iD cs λClient Seq E Value Version Names=>
 OT Qm λfn cap=>
 cJ (!gv fn)<|
 bd (cF fn ([.agg (jq Client Seq E Value Version Names),.i .i64 uX]++cap)) λrA=>
 gI .i64 rA λx2=>
 bd (
 bB (decide (x2<0)) (
 some (0,[.i .i64 (bN .i64 ((bN .i64 (IT (bN .u64 (bN .i64 (i+j))) (2^min (sh 1) (AS .u64))))+1)),.i .i64 j])) (
 some (0,[.i .i64 i,.i .i64 (bN .i64 (IT (bN .u64 (bN .i64 (i+j))) (2^min (sh 1) (AS .u64))))]))) λp1=>
 cJ (AI p1.1 0)<|
 We .i64 .i64 p1.2 λi1 j1=>
 some (.inl [.i .i64 i1,.i .i64 j1])) (
 some (.inr (2,[.i .i64 i])))) [.i .i64 0,.i .i64 (len:Int)]) λp=>
 cJ (AI p.1 2)<|
 gC p.2 λWf Ad=>
 gI .i64 Wf λi2=>
 gN Ad<|
 bd (
 bB (decide (i2<(len:Int))) (
 idx x1 i2 λy1=>
 gA y1 λja=>
 iD ja λdN tC E1 fN cO Ce=>
 OT Qm λv8 pi=>
 cJ (!gv v8)<|
 bd (cF v8 ([.agg (jq dN tC E1 fN cO Ce),.i .i64 uX]++pi)) λaY=>
 gI .i64 aY λx3=>
 some [.i .i64 i2,.b (decide (x3=0))]) (
 some [.i .i64 i2,.b false])) λvs=>
 Uy vs λx4 x5=>
 some (.b8 [.i .i64 x4,.b x5])
def gu:GT:=bp 119 (KP cT) n8
theorem lp:SG gu:=nd xK [] 49 [(8,⟨[0,1,2,8,9],[],[],[(0,[(6,.sc (.k (.i .i64))),(7,.sc (.k .b))])],[]⟩)] [(6,⟨[0,1,2,8,11],[],[],[(0,[(9,.sc (.k (.i .i64))),(10,.sc (.k (.i .i64)))])],[]⟩)] [(3,⟨[0,1,2,8],[],[(9,.sc (.k (.i .i64))),(10,.sc (.k (.i .i64)))],[(2,[(9,.sc (.k (.i .i64)))])],[]⟩)] Tryz.func119 (by kernel_rfl) (uW (λ_ _ _=>by kernel_rfl))
def kb (rA eF:MV):Option MV:=gA rA λcs=>
 mc cs λiU eV mS iV Seen=>
 gI .i64 eF λDl=>
 bd (cT (.list Seen) (.i .i64 Dl) (.func 120 [])) λaY=>
 gT aY λvs=>
 Uy vs λx x1=>
 some (.b8 [.i .i64 x,.b x1])
def wI:GT:=bp 62 (eE kb) gu
theorem Ah:SG wI:=nd lp [] 12 [] [] [] Tryz.func62 (by kernel_rfl) (bo (λ_ _=>by kernel_rfl))
def qg (rA eF:MV):Option MV:=gA rA λcs=>
 mc cs λiU eV mS iV Seen=>
 gI .i64 eF λDl=>
 bd (kb (.agg (fL iU eV mS iV Seen)) (.i .i64 Dl)) λaY=>
 gT aY λvs=>
 Uy vs λx x1=>
 bB (!x1) (
 some (.b8 [.agg (jq 0 0 0 ([]:List UInt8) 0 ([]:List MV)),.b false])) (
 idx Seen x λy=>
 gA y λja=>
 iD ja λClient Seq E Value Version Names=>
 some (.b8 [.agg (jq Client Seq E Value Version Names),.b true]))
def Iz:GT:=bp 36 (eE qg) wI
theorem IA:SG Iz:=nd Ah [] 22 [] [] [] Tryz.func36 (by kernel_rfl) (bo (λ_ _=>by kernel_rfl))
def mI (rA o:MV):Option MV:=gA rA λcs=>
 mc cs λiU eV mS iV Seen=>
 gA o λja=>
 cL ja λClient Seq Kind Path Value Version Session Span=>
 bd (qg (.agg (fL iU eV mS iV Seen)) (.i .i64 Client)) λaY=>
 gT aY λvs=>
 gC vs λWg Dm=>
 gA Wg λyT=>
 iD yT λdN tC E fN cO Names=>
 gC Dm λIC mg=>
 gB IC λx=>
 gN mg<|
 bd (mH (.agg (bU Client Seq Kind Path Value Version Session Span))) λda=>
 gB da λx1=>
 bd (
 bB (!x1) (
 some (0,[.i .i64 0,.i .i64 0,.i .i64 0,.s ([]:List UInt8),.i .i64 0,.list ([]:List MV),.i .i64 Client,.i .i64 Seq,.i .i64 1,.s ([]:List UInt8),.i .i64 0,.list ([]:List MV)])) (
 bd (
 bB x (
 some [.b (decide (tC=Seq))]) (
 some [.b false])) λmQ=>
 gC mQ λWs Ai=>
 gB Ws λx2=>
 gN Ai<|
 bB x2 (
 some (1,[.i .i64 dN,.i .i64 tC,.i .i64 E,.s fN,.i .i64 cO,.list Names,.b true])) (
 bd (
 bB x (
 some [.b (decide (Seq<tC))]) (
 some [.b false])) λuu=>
 gC uu λWt wJ=>
 gB Wt λx3=>
 gN wJ<|
 bd (
 bB x3 (
 some (0,[.i .i64 0,.i .i64 0,.i .i64 0,.s ([]:List UInt8),.i .i64 0,.list ([]:List MV),.i .i64 Client,.i .i64 Seq,.i .i64 15,.s ([]:List UInt8),.i .i64 0,.list ([]:List MV)])) (
 bd (
 bB (!x) (
 bO Seen λlen=>
 some [.b (decide ((50:Int)<=(len:Int)))]) (
 some [.b false])) λvs3=>
 gC vs3 λWu wK=>
 gB Wu λx4=>
 gN wK<|
 bB x4 (
 some (0,[.i .i64 0,.i .i64 0,.i .i64 0,.s ([]:List UInt8),.i .i64 0,.list ([]:List MV),.i .i64 Client,.i .i64 Seq,.i .i64 9,.s ([]:List UInt8),.i .i64 0,.list ([]:List MV)])) (
 some (1,[.i .i64 Client,.i .i64 Seq,.i .i64 0,.s ([]:List UInt8),.i .i64 0,.list ([]:List MV),.b false])))) λp1=>
 bB (AI p1.1 0) (
 gC p1.2 λm24 Qn=>
 gI .i64 m24 λx5=>
 gC Qn λm25 ID=>
 gI .i64 m25 λx6=>
 gC ID λm26 Qo=>
 gI .i64 m26 λx7=>
 gC Qo λm27 aaz=>
 gS m27 λx8=>
 gC aaz λm28 Qp=>
 gI .i64 m28 λx9=>
 gC Qp λm29 ale=>
 gL m29 λGk=>
 iD ale λIr Is It Iu GW Iv=>
 some (0,[.i .i64 x5,.i .i64 x6,.i .i64 x7,.s x8,.i .i64 x9,.list Gk,.i .i64 Ir,.i .i64 Is,.i .i64 It,.s Iu,.i .i64 GW,.list Iv])) (
 cJ (AI p1.1 1)<|
 gC p1.2 λm36 aaA=>
 gI .i64 m36 λFM=>
 gC aaA λm37 aaB=>
 gI .i64 m37 λIw=>
 gC aaB λm38 aaC=>
 gI .i64 m38 λKq=>
 gC aaC λm39 aaD=>
 gS m39 λRc=>
 gC aaD λm40 aaE=>
 gI .i64 m40 λUG=>
 gC aaE λm41 Qq=>
 gL m41 λx22=>
 gC Qq λm42 Qr=>
 gB m42 λUH=>
 gN Qr<|
 some (1,[.i .i64 FM,.i .i64 Iw,.i .i64 Kq,.s Rc,.i .i64 UG,.list x22,.b UH]))))) λp=>
 bB (AI p.1 0) (
 gC p.2 λm43 IE=>
 gI .i64 m43 λx24=>
 gC IE λm44 alg=>
 gI .i64 m44 λx25=>
 gC alg λm45 alh=>
 gI .i64 m45 λx26=>
 gC alh λm46 ali=>
 gS m46 λx27=>
 gC ali λm47 alj=>
 gI .i64 m47 λx28=>
 gC alj λm48 aaF=>
 gL m48 λx29=>
 iD aaF λx30 x31 x32 x33 x34 x35=>
 some (.b8 [.agg (jq x30 x31 x32 x33 x34 x35),.b true])) (
 cJ (AI p.1 1)<|
 gC p.2 λm55 als=>
 gI .i64 m55 λx36=>
 gC als λm56 alv=>
 gI .i64 m56 λx37=>
 gC alv λm57 alx=>
 gI .i64 m57 λx38=>
 gC alx λm58 alz=>
 gS m58 λx39=>
 gC alz λm59 alB=>
 gI .i64 m59 λx40=>
 gC alB λm60 alD=>
 gL m60 λx41=>
 gC alD λm61 alE=>
 gB m61 λx42=>
 gN alE<|
 some (.b8 [.agg (jq x36 x37 x38 x39 x40 x41),.b x42]))
def wL:GT:=bp 58 (eE mI) Iz
theorem Aj:SG wL:=nd IA [] 58 [(10,⟨[2,4,6,8],[],[],[(0,[(47,.sc (.k .b))])],[]⟩),(8,⟨[2,3,4,6,7,8],[],[],[(0,[(37,.sc (.k .b))])],[]⟩),(6,⟨[2,3,4,6,7,8],[],[],[(0,[(27,.sc (.k .b))])],[]⟩)] [(9,⟨[2,8],[],[],[(0,[(4,.box [.k (.i .i64),.k (.i .i64),.k (.i .i64),.k .s,.k (.i .i64),.k .l]),(6,.box [.k (.i .i64),.k (.i .i64),.k (.i .i64),.k .s,.k (.i .i64),.k .l])]),(1,[(4,.box [.k (.i .i64),.k (.i .i64),.k (.i .i64),.k .s,.k (.i .i64),.k .l]),(5,.sc (.k .b))])],[]⟩),(5,⟨[2,3,7,8],[],[],[(0,[(4,.box [.k (.i .i64),.k (.i .i64),.k (.i .i64),.k .s,.k (.i .i64),.k .l]),(6,.box [.k (.i .i64),.k (.i .i64),.k (.i .i64),.k .s,.k (.i .i64),.k .l])]),(1,[(4,.box [.k (.i .i64),.k (.i .i64),.k (.i .i64),.k .s,.k (.i .i64),.k .l]),(5,.sc (.k .b))])],[]⟩)] [] Tryz.func58 (by kernel_rfl) (bo (λ_ _=>by kernel_rfl))
def kG (w:List MV):Option MV:=aO w λcM cf dY c9 iN cU nw gw eI dD bZ bK fY cN mJ xE dI cg dJ lA=>some (.ef (.b8 []) (au cM cf dY c9 iN cU nw gw eI dD bZ bK fY cN mJ xE dI cg dJ lA))
def tD:GT:=bp 105 (Wr kG) wL
theorem xL:SG tD:=Q8 Aj 0 ko [] [(0,1000000)] 2 [] [] [] [] [] [] [] [] Tryz.func105 (by kernel_rfl) (by kernel_rfl) (tz λ_=>by kernel_rfl)
def lD (x id:MV):Option MV:=gA x λcs=>
 Qi cs λId Span lz=>
 gI .i64 id λRe=>
 bd (mf (.i .i64 Id) (.i .i64 Re)) λrA=>
 gI .i64 rA λx1=>
 some (.i .i64 x1)
def pj:GT:=bp 144 (eE lD) tD
theorem yZ:SG pj:=nd xL [] 9 [] [] [] Tryz.func144 (by kernel_rfl) (bo (λ_ _=>by kernel_rfl))
def cq:GT:=pj
theorem fT (x0 x1:MV):cq 144 [x0,x1]=lD x0 x1:=by kernel_rfl
def cG (x target cmp:MV):Option MV:=gL x λx1=>
 gI .i64 target λuX=>
 gR cmp λQm=>
 bO x1 λlen=>
 bd (Loop (λir=>
 jII ir λi j=>
 bB (decide (i<j)) (
 cJ (decide ((0:Int)<=1))<|
 idx x1 (bN .i64 (IT (bN .u64 (bN .i64 (i+j))) (2^min (sh 1) (AS .u64)))) λy=>
 gA y λcs=>
 Qi cs λId Span lz=>
 OT Qm λfn cap=>
 cJ (!gv fn)<|
 bd (cq fn ([.agg [.i .i64 Id,.i .i64 Span,.i .i64 lz],.i .i64 uX]++cap)) λrA=>
 gI .i64 rA λx2=>
 bd (
 bB (decide (x2<0)) (
 some (0,[.i .i64 (bN .i64 ((bN .i64 (IT (bN .u64 (bN .i64 (i+j))) (2^min (sh 1) (AS .u64))))+1)),.i .i64 j])) (
 some (0,[.i .i64 i,.i .i64 (bN .i64 (IT (bN .u64 (bN .i64 (i+j))) (2^min (sh 1) (AS .u64))))]))) λp1=>
 cJ (AI p1.1 0)<|
 We .i64 .i64 p1.2 λi1 j1=>
 some (.inl [.i .i64 i1,.i .i64 j1])) (
 some (.inr (2,[.i .i64 i])))) [.i .i64 0,.i .i64 (len:Int)]) λp=>
 cJ (AI p.1 2)<|
 gC p.2 λm7 vI=>
 gI .i64 m7 λi2=>
 gN vI<|
 bd (
 bB (decide (i2<(len:Int))) (
 idx x1 i2 λy1=>
 gA y1 λja=>
 Qi ja λId1 Af Og=>
 OT Qm λv8 pi=>
 cJ (!gv v8)<|
 bd (cq v8 ([.agg [.i .i64 Id1,.i .i64 Af,.i .i64 Og],.i .i64 uX]++pi)) λaY=>
 gI .i64 aY λx3=>
 some [.i .i64 i2,.b (decide (x3=0))]) (
 some [.i .i64 i2,.b false])) λvs=>
 Uy vs λx4 x5=>
 some (.b8 [.i .i64 x4,.b x5])
def fO:GT:=bp 143 (KP cG) pj
theorem kH:SG fO:=nd yZ [] 49 [(8,⟨[0,1,2,8,9],[],[],[(0,[(6,.sc (.k (.i .i64))),(7,.sc (.k .b))])],[]⟩)] [(6,⟨[0,1,2,8,11],[],[],[(0,[(9,.sc (.k (.i .i64))),(10,.sc (.k (.i .i64)))])],[]⟩)] [(3,⟨[0,1,2,8],[],[(9,.sc (.k (.i .i64))),(10,.sc (.k (.i .i64)))],[(2,[(9,.sc (.k (.i .i64)))])],[]⟩)] Tryz.func143 (by kernel_rfl) (uW (λ_ _ _=>by kernel_rfl))
def gn (b id:MV):Option MV:=gA b λcs=>
 Uz cs λiT L=>
 gI .i64 id λRe=>
 bd (cG (.list L) (.i .i64 Re) (.func 144 [])) λrA=>
 gT rA λvs=>
 Uy vs λx x1=>
 some (.b8 [.i .i64 x,.b x1])
def yB:GT:=bp 82 (eE gn) fO
theorem Bm:SG yB:=nd kH [] 12 [] [] [] Tryz.func82 (by kernel_rfl) (bo (λ_ _=>by kernel_rfl))
def AZ (b id:MV):Option MV:=gA b λcs=>
 Uz cs λiT L=>
 gI .i64 id λRe=>
 bd (gn (.agg [.i .i64 iT,.list L]) (.i .i64 Re)) λrA=>
 gT rA λvs=>
 Uy vs λx x1=>
 some (.b x1)
def Mm:GT:=bp 37 (eE AZ) yB
theorem KT:SG Mm:=nd Bm [] 14 [] [] [] Tryz.func37 (by kernel_rfl) (bo (λ_ _=>by kernel_rfl))
def iF (sA dk:MV):Option MV:=gS sA λni=>
 gS dk λkU=>
 bd (
 bB (decide ((kU.length:Int)<=(ni.length:Int))) (
 cJ (decide ((0:Int)<=0/\(0:Int)<=(kU.length:Int)/\(kU.length:Int)<=(ni.length:Int)))<|
 some [.b (decide ((By (sh 0) (BY (sh (kU.length:Int)) ni))=kU))]) (
 some [.b false])) λvs=>
 gC vs λm ir=>
 gB m λx=>
 gN ir<|
 some (.b x)
def pO:GT:=bp 251 (eE iF) Mm
theorem uw:SG pO:=nd KT [] 18 [(1,⟨[0,1],[],[],[(0,[(4,.sc (.k .b))])],[]⟩)] [] [] Tryz.func251 (by kernel_rfl) (bo (λ_ _=>by kernel_rfl))
def iG (sA dk:MV):Option MV:=gS sA λni=>
 gS dk λkU=>
 bd (iF (.s ni) (.s kU)) λrA=>
 gB rA λx=>
 bB (!x) (
 some (.b8 [.s ni,.b false])) (
 cJ (decide ((0:Int)<=(kU.length:Int)/\(kU.length:Int)<=(ni.length:Int)/\(ni.length:Int)<=(ni.length:Int)))<|
 some (.b8 [.s (By (sh (kU.length:Int)) (BY (sh (ni.length:Int)) ni)),.b true]))
def pP:GT:=bp 232 (eE iG) pO
theorem ux:SG pP:=nd uw [] 15 [] [] [] Tryz.func232 (by kernel_rfl) (bo (λ_ _=>by kernel_rfl))
def lE (sA dk:MV):Option MV:=gS sA λni=>
 gS dk λkU=>
 bd (iG (.s ni) (.s kU)) λrA=>
 gT rA λvs=>
 gC vs λm ir=>
 gS m λx=>
 gC ir λm1 gE=>
 gB m1 λx1=>
 gN gE<|
 some (.b8 [.s x,.b x1])
def uY:GT:=bp 193 (eE lE) pP
theorem za:SG uY:=nd ux [] 11 [] [] [] Tryz.func193 (by kernel_rfl) (bo (λ_ _=>by kernel_rfl))
def qw (c:MV):Option MV:=gI .i32 c λc1=>
 bd (s6 [.s ([97,98,99,100,101,102,103,104,105,106,107,108,109,110,111,112,113,114,115,116,117,118,119,120,121,122,48,49,50,51,52,53,54,55,56,57,45,95]:List UInt8),.i .i32 c1]) λrA=>
 gB rA λx=>
 some (.b (!x))
def vJ:GT:=bp 237 (sZ qw) uY
theorem Dp:SG vJ:=nd za [] 6 [] [] [] Tryz.func237 (by kernel_rfl) (fp (λ_=>by kernel_rfl))
def jr:GT:=vJ
theorem rr (x0:MV):jr 237 [x0]=qw x0:=by kernel_rfl
def nM (sA f FK:MV):Option MV:=gS sA λni=>
 gR f λf1=>
 gB FK λahF=>
 bd (Loop (λir=>
 gC ir λm gE=>
 gL m λes=>
 gN gE<|
 bB (Kw es) (
 OT f1 λfn cap=>
 cJ (!gv fn)<|
 bd (jr fn ([.i .i32 (zA es)]++cap)) λrA=>
 gB rA λx=>
 bB (decide (x=ahF)) (
 some (.inr (1,[.i .i64 (rJ es)]))) (
 some (.inl [.list (BU es)]))) (
 some (.inr (2,[])))) [.list ([.s ni,.i .i64 0]:List MV)]) λp=>
 bB (AI p.1 2) (
 gN p.2<|
 some (.i .i64 (-1))) (
 cJ (AI p.1 1)<|
 gC p.2 λm1 ru=>
 gI .i64 m1 λx1=>
 gN ru<|
 some (.i .i64 x1))
def yC:GT:=bp 275 (KP nM) vJ
theorem Bn:SG yC:=nd Dp [] 21 [] [] [(2,⟨[1,2],[],[(10,.mp ⟨true,[],true⟩)],[(1,[(6,.sc (.k (.i .i64)))]),(2,[])],[]⟩)] Tryz.func275 (by kernel_rfl) (uW (λ_ _ _=>by kernel_rfl))
def lF (sA f:MV):Option MV:=gS sA λni=>
 gR f λf1=>
 bd (nM (.s ni) f1 (.b true)) λrA=>
 gI .i64 rA λx=>
 some (.i .i64 x)
def uZ:GT:=bp 262 (eE lF) yC
theorem zb:SG uZ:=nd Bn [] 8 [] [] [] Tryz.func262 (by kernel_rfl) (bo (λ_ _=>by kernel_rfl))
def jt (sA f:MV):Option MV:=gS sA λni=>
 gR f λf1=>
 bd (lF (.s ni) f1) λrA=>
 gI .i64 rA λx=>
 some (.b (decide ((0:Int)<=x)))
def qU:GT:=bp 236 (eE jt) uZ
theorem vK:SG qU:=nd zb [] 9 [] [] [] Tryz.func236 (by kernel_rfl) (bo (λ_ _=>by kernel_rfl))
def u5 (sA:MV):Option MV:=gS sA λni=>
 bd (
 bB (!decide (ni=([]:List UInt8))) (
 bB (decide ((ni.length:Int)<=30)) (
 bd (Im [.s ni,.s ([97,98,99,100,101,102,103,104,105,106,107,108,109,110,111,112,113,114,115,116,117,118,119,120,121,122,48,49,50,51,52,53,54,55,56,57,45,95]:List UInt8)]) λrA=>
 gS rA λx=>
 bB (decide (x=([]:List UInt8))) (
 bd (jt (.s ni) (.func 237 [])) λaY=>
 gB aY λx1=>
 some [.b (!x1)]) (
 some [.b false])) (
 some [.b false])) (
 some [.b false])) λvs=>
 gC vs λm ir=>
 gB m λx2=>
 gN ir<|
 some (.b x2)
def FQ:GT:=bp 197 (sZ u5) qU
theorem Gm:SG FQ:=nd vK [] 20 [(1,⟨[0],[],[],[(0,[(2,.sc (.k .b))])],[]⟩)] [] [] Tryz.func197 (by kernel_rfl) (fp (λ_=>by kernel_rfl))
def sa (sA:MV):Option MV:=gS sA λni=>
 bd (u5 (.s ni)) λrA=>
 gB rA λx=>
 some (.b (!x))
def xM:GT:=bp 196 (sZ sa) FQ
theorem EC:SG xM:=nd Gm [] 6 [] [] [] Tryz.func196 (by kernel_rfl) (fp (λ_=>by kernel_rfl))
def fq:GT:=xM
theorem n9 (x0:MV):fq 196 [x0]=sa x0:=by kernel_rfl
def gG (sA f:MV):Option MV:=gL sA λni=>
 gR f λf1=>
 bO ni λlen=>
 bd (Loop (λir=>
 gC ir λm gE=>
 gI .i64 m λx=>
 gN gE<|
 bB (decide (x<(len:Int))) (
 idx ni x λy=>
 gS y λx1=>
 OT f1 λfn cap=>
 cJ (!gv fn)<|
 bd (fq fn ([.s x1]++cap)) λrA=>
 gB rA λx2=>
 bB x2 (
 some (.inr (1,[.i .i64 x]))) (
 some (.inl [.i .i64 (bN .i64 (x+1))]))) (
 some (.inr (2,[])))) [.i .i64 0]) λp=>
 bB (AI p.1 2) (
 gN p.2<|
 some (.i .i64 (-1))) (
 cJ (AI p.1 1)<|
 gC p.2 λm1 ru=>
 gI .i64 m1 λx3=>
 gN ru<|
 some (.i .i64 x3))
def pk:GT:=bp 234 (eE gG) xM
theorem tE:SG pk:=nd EC [] 19 [] [] [(2,⟨[0,1,7],[],[(8,.sc (.k (.i .i64)))],[(1,[(4,.sc (.k (.i .i64)))]),(2,[])],[]⟩)] Tryz.func234 (by kernel_rfl) (bo (λ_ _=>by kernel_rfl))
def eW (sA f:MV):Option MV:=gL sA λni=>
 gR f λf1=>
 bd (gG (.list ni) f1) λrA=>
 gI .i64 rA λx=>
 some (.b (decide ((0:Int)<=x)))
def mT:GT:=bp 195 (eE eW) pk
theorem qV:SG mT:=nd tE [] 9 [] [] [] Tryz.func195 (by kernel_rfl) (bo (λ_ _=>by kernel_rfl))
def kI (p:MV):Option MV:=gS p λp1=>
 bd (lE (.s p1) (.s ([47]:List UInt8))) λrA=>
 gT rA λvs=>
 gC vs λm ir=>
 gS m λx=>
 gC ir λm1 gE=>
 gB m1 λx1=>
 gN gE<|
 bd (
 bB (!x1) (
 some [.b true]) (
 some [.b (decide ((100:Int)<(p1.length:Int)))])) λmQ=>
 gC mQ λm2 ru=>
 gB m2 λx2=>
 gN ru<|
 bB x2 (
 some (.b8 [.list ([]:List MV),.b false])) (
 bB (decide (x=([]:List UInt8))) (
 some (.b8 [.list ([]:List MV),.b true])) (
 bd (Ab [.s x,.s ([47]:List UInt8)]) λaY=>
 gF aY λxs=>
 bd (
 bO xs λlen=>
 bB (decide ((len:Int)<=8)) (
 bd (eW (.list xs) (.func 196 [])) λda=>
 gB da λx3=>
 some [.list xs,.b (!x3),.list xs]) (
 some [.list xs,.b false,.list xs])) λuu=>
 gC uu λm3 vL=>
 gL m3 λIF=>
 gC vL λm4 tF=>
 gB m4 λx4=>
 gC tF λm5 xN=>
 gL m5 λlA=>
 gN xN<|
 some (.b8 [.list lA,.b x4])))
def IG:GT:=bp 137 (sZ kI) mT
theorem IH:SG IG:=nd qV [] 34 [(7,⟨[],[],[],[(0,[(2,.sc (.own 24 9 true)),(3,.sc (.k .b)),(6,.sc (.own 24 9 true))])],[24]⟩),(2,⟨[0,4,5],[],[],[(0,[(12,.sc (.k .b))])],[24]⟩)] [] [] Tryz.func137 (by kernel_rfl) (fp (λ_=>by kernel_rfl))
def kV (x:MV):Option MV:=gS x λx1=>some (.b (!decide (x1=x1)))
def yD:GT:=bp 264 (sZ kV) IG
theorem Bo:SG yD:=nd IH [] 6 [] [] [] Tryz.func264 (by kernel_rfl) (fp (λ_=>by kernel_rfl))
def lG (x y:MV):Option MV:=gS x λx1=>
 gS y λy1=>
 bd (kV (.s x1)) λrA=>
 gB rA λx2=>
 bd (kV (.s y1)) λaY=>
 gB aY λx3=>
 bB x2 (
 bB x3 (
 some (.i .i64 0)) (
 some (.i .i64 (-1)))) (
 bB x3 (
 some (.i .i64 1)) (
 bB (aaW x1 y1) (
 some (.i .i64 (-1))) (
 bB (!(aaW x1 y1||decide (x1=y1))) (
 some (.i .i64 1)) (
 some (.i .i64 0)))))
def u6:GT:=bp 240 (eE lG) yD
theorem zd:SG u6:=nd Bo [] 20 [] [] [] Tryz.func240 (by kernel_rfl) (bo (λ_ _=>by kernel_rfl))
def ju (s1 s2:MV):Option MV:=gL s1 λtG=>
 gL s2 λze=>
 bO tG λlen=>
 bd (Loop (λir=>
 gC ir λm gE=>
 gI .i64 m λx=>
 gN gE<|
 bB (decide (x<(len:Int))) (
 idx tG x λy=>
 gS y λx1=>
 bO ze λeG=>
 bB (decide ((eG:Int)<=x)) (
 some (.inr (1,[.i .i64 1]))) (
 idx ze x λy1=>
 gS y1 λx2=>
 bd (lG (.s x1) (.s x2)) λrA=>
 gI .i64 rA λx3=>
 bB (!decide (x3=0)) (
 some (.inr (1,[.i .i64 x3]))) (
 some (.inl [.i .i64 (bN .i64 (x+1))])))) (
 some (.inr (2,[])))) [.i .i64 0]) λp=>
 bB (AI p.1 2) (
 gN p.2<|
 bO tG λjJ=>
 bO ze λvM=>
 bB (decide ((jJ:Int)<(vM:Int))) (
 some (.i .i64 (-1))) (
 some (.i .i64 0))) (
 cJ (AI p.1 1)<|
 gC p.2 λm1 ru=>
 gI .i64 m1 λx4=>
 gN ru<|
 some (.i .i64 x4))
def qW:GT:=bp 202 (eE ju) u6
theorem vN:SG qW:=nd zd [] 36 [] [] [(2,⟨[0,1,9,10],[],[(11,.sc (.k (.i .i64)))],[(1,[(4,.sc (.k (.i .i64)))]),(2,[])],[]⟩)] Tryz.func202 (by kernel_rfl) (bo (λ_ _=>by kernel_rfl))
def xO (p q:MV):Option MV:=gS p λp1=>
 gS q λq1=>
 bd (kI (.s p1)) λrA=>
 gT rA λvs=>
 gC vs λm ir=>
 gL m λx=>
 gC ir λm1 gE=>
 gB m1 λx1=>
 gN gE<|
 bd (kI (.s q1)) λaY=>
 gT aY λmQ=>
 gC mQ λm2 ru=>
 gL m2 λx2=>
 gC ru λm3 vL=>
 gB m3 λx3=>
 gN vL<|
 bd (
 bB x1 (
 bB x3 (
 bd (ju (.list x) (.list x2)) λda=>
 gI .i64 da λx4=>
 some [.b (decide (x4<0))]) (
 some [.b false])) (
 some [.b false])) λuu=>
 gC uu λm4 tF=>
 gB m4 λx5=>
 gN tF<|
 some (.b x5)
def IJ:GT:=bp 146 (eE xO) qW
theorem IK:SG IJ:=nd vN [] 29 [(3,⟨[5,6,7,8],[],[],[(0,[(4,.sc (.k .b))])],[]⟩)] [] [] Tryz.func146 (by kernel_rfl) (bo (λ_ _=>by kernel_rfl))
def kJ (n p:MV):Option MV:=gA n λcs=>
 qT cs λPath Value Version dw=>
 gS p λp1=>
 bB (decide (Path=p1)) (
 some (.i .i64 0)) (
 bd (xO (.s Path) (.s p1)) λrA=>
 gB rA λx=>
 bB x (
 some (.i .i64 (-1))) (
 some (.i .i64 1)))
def oa:GT:=bp 245 (eE kJ) IJ
theorem xP:SG oa:=nd IK [] 15 [] [] [] Tryz.func245 (by kernel_rfl) (bo (λ_ _=>by kernel_rfl))
def cr:GT:=oa
theorem fP (x0 x1:MV):cr 245 [x0,x1]=kJ x0 x1:=by kernel_rfl
def cH (x target cmp:MV):Option MV:=gL x λx1=>
 gS target λuX=>
 gR cmp λQm=>
 bO x1 λlen=>
 bd (Loop (λir=>
 jII ir λi j=>
 bB (decide (i<j)) (
 cJ (decide ((0:Int)<=1))<|
 idx x1 (bN .i64 (IT (bN .u64 (bN .i64 (i+j))) (2^min (sh 1) (AS .u64)))) λy=>
 gA y λcs=>
 qT cs λPath Value Version dw=>
 OT Qm λfn cap=>
 cJ (!gv fn)<|
 bd (cr fn ([.agg (rP Path Value Version dw),.s uX]++cap)) λrA=>
 gI .i64 rA λx2=>
 bd (
 bB (decide (x2<0)) (
 some (0,[.i .i64 (bN .i64 ((bN .i64 (IT (bN .u64 (bN .i64 (i+j))) (2^min (sh 1) (AS .u64))))+1)),.i .i64 j])) (
 some (0,[.i .i64 i,.i .i64 (bN .i64 (IT (bN .u64 (bN .i64 (i+j))) (2^min (sh 1) (AS .u64))))]))) λp1=>
 cJ (AI p1.1 0)<|
 We .i64 .i64 p1.2 λi1 j1=>
 some (.inl [.i .i64 i1,.i .i64 j1])) (
 some (.inr (2,[.i .i64 i])))) [.i .i64 0,.i .i64 (len:Int)]) λp=>
 cJ (AI p.1 2)<|
 gC p.2 λm8 Iy=>
 gI .i64 m8 λi2=>
 gN Iy<|
 bd (
 bB (decide (i2<(len:Int))) (
 idx x1 i2 λy1=>
 gA y1 λja=>
 qT ja λlC fN cO Cf=>
 OT Qm λv8 pi=>
 cJ (!gv v8)<|
 bd (cr v8 ([.agg (rP lC fN cO Cf),.s uX]++pi)) λaY=>
 gI .i64 aY λx3=>
 some [.i .i64 i2,.b (decide (x3=0))]) (
 some [.i .i64 i2,.b false])) λvs=>
 Uy vs λx4 x5=>
 some (.b8 [.i .i64 x4,.b x5])
def fQ:GT:=bp 244 (KP cH) oa
theorem kK:SG fQ:=nd xP [] 49 [(8,⟨[0,1,2,8,9],[],[],[(0,[(6,.sc (.k (.i .i64))),(7,.sc (.k .b))])],[]⟩)] [(6,⟨[0,1,2,8,11],[],[],[(0,[(9,.sc (.k (.i .i64))),(10,.sc (.k (.i .i64)))])],[]⟩)] [(3,⟨[0,1,2,8],[],[(9,.sc (.k (.i .i64))),(10,.sc (.k (.i .i64)))],[(2,[(9,.sc (.k (.i .i64)))])],[]⟩)] Tryz.func244 (by kernel_rfl) (uW (λ_ _ _=>by kernel_rfl))
def kc (sA p:MV):Option MV:=gA sA λcs=>
 gC cs λm ir=>
 gL m λL=>
 gN ir<|
 gS p λp1=>
 bd (cH (.list L) (.s p1) (.func 245 [])) λrA=>
 gT rA λvs=>
 Uy vs λx x1=>
 some (.b8 [.i .i64 x,.b x1])
def wM:GT:=bp 216 (eE kc) fQ
theorem Ak:SG wM:=nd kK [] 12 [] [] [] Tryz.func216 (by kernel_rfl) (bo (λ_ _=>by kernel_rfl))
def mh (p:MV):Option MV:=gS p λp1=>
 bd (kI (.s p1)) λrA=>
 gT rA λvs=>
 gC vs λm ir=>
 gL m λx=>
 gC ir λm1 gE=>
 gB m1 λx1=>
 gN gE<|
 some (.b x1)
def IM:GT:=bp 73 (sZ mh) wM
theorem IP:SG IM:=nd Ak [] 11 [] [] [] Tryz.func73 (by kernel_rfl) (fp (λ_=>by kernel_rfl))
def ez (sA c:MV):Option MV:=gS sA λni=>
 gI .u8 c λc1=>
 bd (Loop (λir=>
 gC ir λm gE=>
 gI .i64 m λi=>
 gN gE<|
 bB (decide ((0:Int)<=i)) (
 cJ (decide ((0:Int)<=i/\i<(ni.length:Int)))<|
 bB (decide (((ni.getD (sh i) 0).toNat:Int)=c1)) (
 some (.inr (1,[.i .i64 i]))) (
 some (.inl [.i .i64 (bN .i64 (i-1))]))) (
 some (.inr (2,[])))) [.i .i64 (bN .i64 ((ni.length:Int)-1))]) λp=>
 bB (AI p.1 2) (
 gN p.2<|
 some (.i .i64 (-1))) (
 cJ (AI p.1 1)<|
 gC p.2 λm1 ru=>
 gI .i64 m1 λx=>
 gN ru<|
 some (.i .i64 x))
def lH:GT:=bp 198 (eE ez) IM
theorem pL:SG lH:=nd IP [] 19 [] [] [(2,⟨[0,1],[],[(5,.sc (.k (.i .i64)))],[(1,[(4,.sc (.k (.i .i64)))]),(2,[])],[]⟩)] Tryz.func198 (by kernel_rfl) (bo (λ_ _=>by kernel_rfl))
def ft (sep:MV):Option MV:=gS sep λaed=>
 bd (Loop (λir=>
 We .u32 .i64 ir λhash i=>
 bB (decide ((0:Int)<=i)) (
 cJ (decide ((0:Int)<=i/\i<(aed.length:Int)))<|
 some (.inl [.i .u32 (bN .u32 ((bN .u32 (hash *16777619))+(bN .u32 ((aed.getD (sh i) 0).toNat:Int)))),.i .i64 (bN .i64 (i-1))])) (
 some (.inr (2,[.i .u32 hash])))) [.i .u32 0,.i .i64 (bN .i64 ((aed.length:Int)-1))]) λp=>
 cJ (AI p.1 2)<|
 gC p.2 λm2 vL=>
 gI .u32 m2 λalG=>
 gN vL<|
 bd (Loop (λtF=>
 ahr .u32 .u32 .i64 tF λpow sq i1=>
 bB (decide ((0:Int)<i1)) (
 bd (
 bB (!decide ((M6 .i64 i1 1)=0)) (
 some (0,[.i .u32 (bN .u32 (pow *sq))])) (
 some (0,[.i .u32 pow]))) λp2=>
 cJ (AI p2.1 0)<|
 gC p2.2 λm6 vI=>
 gI .u32 m6 λapA=>
 gN vI<|
 cJ (decide ((0:Int)<=1))<|
 some (.inl [.i .u32 apA,.i .u32 (bN .u32 (sq *sq)),.i .i64 (IT i1 (2^min (sh 1) (AS .i64)))])) (
 some (.inr (4,[.i .u32 pow])))) [.i .u32 1,.i .u32 16777619,.i .i64 (aed.length:Int)]) λp1=>
 cJ (AI p1.1 4)<|
 gC p1.2 λm7 Iy=>
 gI .u32 m7 λapB=>
 gN Iy<|
 some (.b8 [.i .u32 alG,.i .u32 apB])
def nx:GT:=bp 239 (sZ ft) lH
theorem rv:SG nx:=nd pL [] 40 [] [(11,⟨[4,7,8],[],[],[(0,[(6,.sc (.k (.i .u32)))])],[]⟩)] [(8,⟨[4],[],[(6,.sc (.k (.i .u32))),(7,.sc (.k (.i .u32))),(8,.sc (.k (.i .i64)))],[(4,[(6,.sc (.k (.i .u32)))])],[]⟩),(3,⟨[0],[],[(4,.sc (.k (.i .u32))),(5,.sc (.k (.i .i64)))],[(2,[(4,.sc (.k (.i .u32)))])],[]⟩)] Tryz.func239 (by kernel_rfl) (fp (λ_=>by kernel_rfl))
def dm (a a1:MV):Option MV:=gS a λa2=>
 gS a1 λsb=>
 bd (ft (.s sb)) λrA=>
 gT rA λvs=>
 We .u32 .u32 vs λx x1=>
 bd (Loop (λru=>
 We .u32 .i64 ru λx2 x3=>
 bB (decide ((bN .i64 ((a2.length:Int)-(sb.length:Int)))<=x3)) (
 cJ (decide ((0:Int)<=x3/\x3<(a2.length:Int)))<|
 some (.inl [.i .u32 (bN .u32 ((bN .u32 (x2 *16777619))+(bN .u32 ((a2.getD (sh x3) 0).toNat:Int)))),.i .i64 (bN .i64 (x3-1))])) (
 some (.inr (2,[.i .u32 x2])))) [.i .u32 0,.i .i64 (bN .i64 ((a2.length:Int)-1))]) λp=>
 cJ (AI p.1 2)<|
 gC p.2 λm4 xN=>
 gI .u32 m4 λx4=>
 gN xN<|
 bd (
 bB (decide (x4=x)) (
 cJ (decide ((0:Int)<=(bN .i64 ((a2.length:Int)-(sb.length:Int)))/\(bN .i64 ((a2.length:Int)-(sb.length:Int)))<=(a2.length:Int)/\(a2.length:Int)<=(a2.length:Int)))<|
 some [.b (decide ((By (sh (bN .i64 ((a2.length:Int)-(sb.length:Int)))) (BY (sh (a2.length:Int)) a2))=sb))]) (
 some [.b false])) λmQ=>
 gC mQ λm5 ED=>
 gB m5 λx5=>
 gN ED<|
 bB x5 (
 some (.i .i64 (bN .i64 ((a2.length:Int)-(sb.length:Int))))) (
 bd (Loop (λAl=>
 We .u32 .i64 Al λx6 x7=>
 bB (decide ((0:Int)<=x7)) (
 cJ (decide ((0:Int)<=x7/\x7<(a2.length:Int)))<|
 cJ (decide ((0:Int)<=(bN .i64 (x7+(sb.length:Int)))/\(bN .i64 (x7+(sb.length:Int)))<(a2.length:Int)))<|
 bd (
 bB (decide ((bN .u32 ((bN .u32 ((bN .u32 (x6 *16777619))+(bN .u32 ((a2.getD (sh x7) 0).toNat:Int))))-(bN .u32 (x1 *(bN .u32 ((a2.getD (sh (bN .i64 (x7+(sb.length:Int)))) 0).toNat:Int))))))=x)) (
 cJ (decide ((0:Int)<=x7/\x7<=(bN .i64 (x7+(sb.length:Int)))/\(bN .i64 (x7+(sb.length:Int)))<=(a2.length:Int)))<|
 some [.b (decide ((By (sh x7) (BY (sh (bN .i64 (x7+(sb.length:Int)))) a2))=sb))]) (
 some [.b false])) λuu=>
 gC uu λm8 tA=>
 gB m8 λx8=>
 gN tA<|
 bB x8 (
 some (.inr (1,[.i .i64 x7]))) (
 some (.inl [.i .u32 (bN .u32 ((bN .u32 ((bN .u32 (x6 *16777619))+(bN .u32 ((a2.getD (sh x7) 0).toNat:Int))))-(bN .u32 (x1 *(bN .u32 ((a2.getD (sh (bN .i64 (x7+(sb.length:Int)))) 0).toNat:Int)))))),.i .i64 (bN .i64 (x7-1))]))) (
 some (.inr (4,[])))) [.i .u32 x4,.i .i64 (bN .i64 ((bN .i64 ((a2.length:Int)-(sb.length:Int)))-1))]) λp1=>
 bB (AI p1.1 4) (
 gN p1.2<|
 some (.i .i64 (-1))) (
 cJ (AI p1.1 1)<|
 gC p1.2 λm9 Ad=>
 gI .i64 m9 λx9=>
 gN Ad<|
 some (.i .i64 x9)))
def jv:GT:=bp 199 (eE dm) nx
theorem ng:SG jv:=nd rv [] 87 [(17,⟨[0,1,5,6,7,9,11],[],[],[(0,[(85,.sc (.k .b))])],[]⟩),(9,⟨[0,1,5,6,7,8,9],[],[],[(0,[(47,.sc (.k .b))])],[]⟩)] [] [(12,⟨[0,1,5,6,7],[],[(9,.sc (.k (.i .u32))),(11,.sc (.k (.i .i64)))],[(1,[(4,.sc (.k (.i .i64)))]),(4,[])],[]⟩),(6,⟨[0,1,5,6,7,8],[],[(9,.sc (.k (.i .u32))),(10,.sc (.k (.i .i64)))],[(2,[(9,.sc (.k (.i .u32)))])],[]⟩)] Tryz.func199 (by kernel_rfl) (bo (λ_ _=>by kernel_rfl))
def lI (sA substr:MV):Option MV:=gS sA λni=>
 gS substr λu7=>
 bB (decide ((u7.length:Int)=0)) (
 some (.i .i64 (ni.length:Int))) (
 bB (decide ((u7.length:Int)=1)) (
 cJ (decide ((0:Int)<=0/\(0:Int)<(u7.length:Int)))<|
 bd (ez (.s ni) (.i .u8 ((u7.getD (sh 0) 0).toNat:Int))) λrA=>
 gI .i64 rA λx=>
 some (.i .i64 x)) (
 bB (decide ((u7.length:Int)=(ni.length:Int))) (
 bB (decide (u7=ni)) (
 some (.i .i64 0)) (
 some (.i .i64 (-1)))) (
 bB (decide ((ni.length:Int)<(u7.length:Int))) (
 some (.i .i64 (-1))) (
 bd (dm (.s ni) (.s u7)) λaY=>
 gI .i64 aY λx1=>
 some (.i .i64 x1)))))
def u9:GT:=bp 138 (eE lI) jv
theorem zf:SG u9:=nd ng [] 36 [] [] [] Tryz.func138 (by kernel_rfl) (bo (λ_ _=>by kernel_rfl))
def qX (p:MV):Option MV:=gS p λp1=>
 bd (mh (.s p1)) λrA=>
 gB rA λx=>
 bB (!x) (
 some (.b8 [.s ([]:List UInt8),.i .i64 13])) (
 bB (decide (p1=([47]:List UInt8))) (
 some (.b8 [.s ([]:List UInt8),.i .i64 6])) (
 bd (lI (.s p1) (.s ([47]:List UInt8))) λaY=>
 gI .i64 aY λx1=>
 cJ (decide ((0:Int)<=0/\(0:Int)<=(imax 1 x1)/\(imax 1 x1)<=(p1.length:Int)))<|
 some (.b8 [.s (By (sh 0) (BY (sh (imax 1 x1)) p1)),.i .i64 0])))
def FR:GT:=bp 74 (sZ qX) u9
theorem Gn:SG FR:=nd zf [] 16 [] [] [] Tryz.func74 (by kernel_rfl) (fp (λ_=>by kernel_rfl))
def iY (sA p:MV):Option MV:=gA sA λcs=>
 gC cs λm ir=>
 gL m λL=>
 gN ir<|
 gS p λp1=>
 bd (mh (.s p1)) λrA=>
 gB rA λx=>
 bB (!x) (
 some (.b8 [.i .i64 0,.i .i64 13])) (
 bd (kc (.agg [.list L]) (.s p1)) λaY=>
 gT aY λvs=>
 Uy vs λx1 x2=>
 bB (!x2) (
 some (.b8 [.i .i64 0,.i .i64 6])) (
 some (.b8 [.i .i64 x1,.i .i64 0])))
def yE:GT:=bp 220 (eE iY) FR
theorem Bp:SG yE:=nd Gn [] 20 [] [] [] Tryz.func220 (by kernel_rfl) (bo (λ_ _=>by kernel_rfl))
def sE (sA p:MV):Option MV:=gA sA λcs=>
 gC cs λm ir=>
 gL m λL=>
 gN ir<|
 gS p λp1=>
 bd (iY (.agg [.list L]) (.s p1)) λrA=>
 gT rA λvs=>
 jII vs λx x1=>
 bB (!decide (x1=0)) (
 some (.b8 [.agg (rP ([]:List UInt8) ([]:List UInt8) 0 0),.i .i64 x1])) (
 idx L x λy=>
 gA y λja=>
 qT ja λPath Value Version dw=>
 some (.b8 [.agg (rP Path Value Version dw),.i .i64 0]))
def Mn:GT:=bp 172 (eE sE) yE
theorem KU:SG Mn:=nd Bp [] 23 [] [] [] Tryz.func172 (by kernel_rfl) (bo (λ_ _=>by kernel_rfl))
def pn (c c1 c2 c3 c4:MV):Option MV:=gP c λcs=>
 gC cs λm ir=>
 gS m λx=>
 gN ir<|
 gP c1 λja=>
 gC ja λm1 gE=>
 gB m1 λx1=>
 gN gE<|
 gP c2 λyT=>
 gC yT λm2 ru=>
 gL m2 λL=>
 gN ru<|
 gP c3 λur=>
 gC ur λm3 vL=>
 gS m3 λx2=>
 gN vL<|
 gP c4 λcs4=>
 gC cs4 λm4 tF=>
 gI .i64 m4 λx3=>
 gN tF<|
 bd (mh (.s x)) λrA=>
 gB rA λx4=>
 bB (!x4) (
 some (.i .i64 13)) (
 bB x1 (
 some (.i .i64 7)) (
 bd (qX (.s x)) λaY=>
 gT aY λvs=>
 gC vs λm5 xN=>
 gS m5 λx5=>
 gC xN λm6 ED=>
 gI .i64 m6 λx6=>
 gN ED<|
 bd (sE (.agg [.list L]) (.s x5)) λda=>
 gT da λmQ=>
 gC mQ λm7 Al=>
 gA m7 λcs5=>
 qT cs5 λPath Value Version dw=>
 gC Al λm12 IQ=>
 gI .i64 m12 λx7=>
 gN IQ<|
 bB (!decide (x7=0)) (
 some (.i .i64 6)) (
 bB (!decide (dw=0)) (
 some (.i .i64 10)) (
 bB (decide ((1000:Int)<(x2.length:Int))) (
 some (.i .i64 5)) (
 bB (decide (x3<0)) (
 some (.i .i64 1)) (
 bO L λlen=>
 bB (decide ((200:Int)<=(len:Int))) (
 some (.i .i64 9)) (
 some (.i .i64 0))))))))
def Am:GT:=bp 217 (aho pn) Mn
theorem Cg:SG Am:=nd KU [[.s],[.b],[.l],[.s],[.i .i64]] 44 [] [] [] Tryz.func217 (by kernel_rfl) (adM (λ_ _ _ _ _=>by kernel_rfl))
def sd (sA p value owner:MV):Option MV:=gA sA λcs=>
 gC cs λm ir=>
 gL m λL=>
 gN ir<|
 gS p λp1=>
 gS value λAn=>
 gI .i64 owner λEE=>
 bd (kc (.agg [.list L]) (.s p1)) λrA=>
 gT rA λvs=>
 Uy vs λx x1=>
 bd (pn (.rp [.s p1]) (.rp [.b x1]) (.rp [.list L]) (.rp [.s An]) (.rp [.i .i64 EE])) λaY=>
 gI .i64 aY λx2=>
 bB (!decide (x2=0)) (
 some (.b8 [.agg [.list L],.i .i64 x2])) (
 both (
 bd (gy 4 48 [.list L]) λda=>
 gF da λxs=>
 bd (kz 48 [.fresh xs,.i .i64 x,.fresh ([.agg (rP p1 An 0 EE)]:List MV)]) λrO=>
 gF rO λIF=>
 some (.b8 [.agg [.list IF],.i .i64 0])) (
 bd (gy 4 48 [.list L]) λFL=>
 gF FL λxs2=>
 bd (kz 48 [.fresh xs2,.i .i64 x,.fresh ([.agg (rP p1 An 0 EE)]:List MV)]) λxH=>
 gF xH λxs3=>
 some (.b8 [.agg [.list xs3],.i .i64 0])))
def Dq:GT:=bp 170 (adL sd) Am
theorem EF:SG Dq:=Gl Cg [] [] 38 [] [] [] [(6,[0,1,3,4,5,6,7,2,8,9,10,11,12,0,1,3,4,5,6,7,8,2,9,10,11,12,13,2,8])] [] [] [] [] Tryz.func170 (by kernel_rfl) (Uu (λ_ _ _ _=>by kernel_rfl))
def fj (w:List MV)(kind:MV):Option MV:=gI .i64 kind λafQ=>
 aO w λcM cf dY c9 iN cU nw gw eI dD bZ bK fY cN mJ xE dI cg dJ lA=>
 bd (
 bB (decide (xE=0)) (
 bO lA λlen=>
 bO ([.agg [.i .i64 afQ,.s eI]]:List MV) λeG=>
 cJ (decide ((len+eG) *24<=2^46))<|
 some (0,(au cM cf dY c9 iN cU nw gw eI dD bZ bK fY cN mJ xE dI cg dJ (lA++([.agg [.i .i64 afQ,.s eI]]:List MV))))) (
 some (0,(au cM cf dY c9 iN cU nw gw eI dD bZ bK fY cN mJ xE dI cg dJ lA)))) λp=>
 cJ (AI p.1 0)<|
 cP .i64 .i64 .i64 .i64 .i64 .i64 .i64 .i64 .i64 .i64 .i64 p.2 λx x1 x2 x3 x4 x5 x6 x7 x8 x9 Gk Ir Is It Iu GW Iv FM Iw xs=>
 some (.ef (.b8 []) (au x x1 x2 x3 x4 x5 x6 x7 x8 x9 Gk Ir Is It Iu GW Iv FM Iw xs))
def tH:GT:=bp 171 (cl2 fj) Dq
theorem xQ:SG tH:=Q8 EF 0 ko [] [(0,1000000)] 26 [22] [] [] [(1,[0,1,2,3,4,5,6,7,8,9,10,11,12,13,14,15,16])] [] [(1,⟨[0,1],[],[],[(0,[(1000000,.box [.k .l,.k (.i .i64),.k .l,.k .l,.k .l,.k (.i .i64),.k (.i .i64),.k (.i .i64),.k .s,.k .s,.k (.i .i64),.k (.i .i64),.k (.i .i64),.k (.i .i64),.k (.i .i64),.k (.i .i64),.k .s,.k (.i .i64),.k .l,.own 2000019 77 false])])],[]⟩)] [] [] Tryz.func171 (by kernel_rfl) (by kernel_rfl) (aay λ_ _=>by kernel_rfl)
def lJ (w:List MV):Option MV:=aO w λcM cf dY c9 iN cU nw gw eI dD bZ bK fY cN mJ xE dI cg dJ lA=>
 bd (
 bB (!decide (bK=0)) (
 bd (AZ (.agg [.i .i64 cf,.list dY]) (.i .i64 bK)) λrA=>
 gB rA λx=>
 some [.b (!x)]) (
 some [.b false])) λvs=>
 gC vs λIC mg=>
 gB IC λx1=>
 gN mg<|
 bB x1 (
 some (.ef (.b8 []) (au cM cf dY c9 iN cU nw gw eI dD bZ bK fY cN mJ 14 dI cg dJ lA))) (
 bd (sd (.agg [.list cM]) (.s eI) (.s dD) (.i .i64 bK)) λaY=>
 gT aY λmQ=>
 gC mQ λWs Ai=>
 gA Ws λcs=>
 gC cs λWt wJ=>
 gL Wt λL=>
 gN wJ<|
 gC Ai λWu wK=>
 gI .i64 Wu λx2=>
 gN wK<|
 bd (fj (au L cf dY c9 iN cU nw gw eI dD bZ bK fY cN mJ x2 dI cg dJ lA) (.i .i64 1)) λda=>
 gW da λx3 ls=>
 aO ls λmi li qx ny vO nz BI vP tJ qy lj lk vQ nA BJ xE1 qz mK qA Ch=>
 some (.ef (.b8 []) (au mi li qx ny vO nz BI vP tJ qy lj lk vQ nA BJ xE1 qz mK qA Ch)))
def vc:GT:=bp 106 (Wr lJ) tH
theorem zg:SG vc:=Q8 xQ 0 ko [] [(0,1000000)] 60 [] [] [] [(0,[0,1,2,3,4,5,6,7,8,9,10,11,12,13,14,15,16,17,18,19]),(2,[0,1,2,3,4,5,6,7,8,9,10,11,12,13,14,15,16,17,18,19,20,21,22,23,24,25,26,27,28,29,30,31,32,33])] [(0,⟨[0,1000000],[2000019],[],[(0,[(21,.sc (.k .b))])],[]⟩)] [] [] [] Tryz.func106 (by kernel_rfl) (by kernel_rfl) (tz λ_=>by kernel_rfl)
def po (w:List MV):Option MV:=aO w λcM cf dY c9 iN cU nw gw eI dD bZ bK fY cN mJ xE dI cg dJ lA=>
 bd (sE (.agg [.list cM]) (.s eI)) λrA=>
 gT rA λvs=>
 gC vs λIC mg=>
 gA IC λcs=>
 qT cs λPath Value Version dw=>
 gC mg λm25 ID=>
 gI .i64 m25 λx=>
 gN ID<|
 some (.ef (.b8 []) (au cM cf dY c9 iN cU nw gw eI dD bZ bK fY cN mJ x Value Version dJ lA))
def Ao:GT:=bp 107 (Wr po) vc
theorem Ci:SG Ao:=Q8 zg 0 ko [] [(0,1000000)] 35 [] [24] [(1,[2])] [(0,[0,1,2,3,4,5,6,7,8,9,10,11,12,13,14,15,16]),(1,[0,1,2,3,4,5,6,7,8,9,10,11,12,13,14,15,16,17,18,19])] [] [] [] [] Tryz.func107 (by kernel_rfl) (by kernel_rfl) (tz λ_=>by kernel_rfl)
def fR (sA p version:MV):Option MV:=gA sA λcs=>
 gC cs λm ir=>
 gL m λL=>
 gN ir<|
 gS p λp1=>
 gI .i64 version λwN=>
 bd (iY (.agg [.list L]) (.s p1)) λrA=>
 gT rA λvs=>
 jII vs λx x1=>
 bd (
 bB (decide (x1=0)) (
 bB (!decide (wN=(-1))) (
 idx L x λy=>
 gA y λja=>
 qT ja λPath Value Version dw=>
 some [.b (!decide (wN=Version))]) (
 some [.b false])) (
 some [.b false])) λmQ=>
 gC mQ λm7 Al=>
 gB m7 λx2=>
 gN Al<|
 bB x2 (
 some (.b8 [.i .i64 x,.i .i64 8])) (
 some (.b8 [.i .i64 x,.i .i64 x1]))
def qY:GT:=bp 221 (KP fR) Ao
theorem vR:SG qY:=nd Ci [] 35 [(2,⟨[2,3,8,9],[],[],[(0,[(31,.sc (.k .b))])],[]⟩)] [] [] Tryz.func221 (by kernel_rfl) (uW (λ_ _ _=>by kernel_rfl))
def A0 (sA p value version:MV):Option MV:=gA sA λcs=>
 gC cs λm ir=>
 gL m λL=>
 gN ir<|
 gS p λp1=>
 gS value λAn=>
 gI .i64 version λwN=>
 bd (fR (.agg [.list L]) (.s p1) (.i .i64 wN)) λrA=>
 gT rA λvs=>
 jII vs λx x1=>
 bB (!decide (x1=0)) (
 some (.b8 [.agg [.list L],.i .i64 x1])) (
 bB (decide ((1000:Int)<(An.length:Int))) (
 some (.b8 [.agg [.list L],.i .i64 5])) (
 idx L x λy=>
 gA y λja=>
 qT ja λPath Value Version dw=>
 bB (decide ((1000000000:Int)<=Version)) (
 some (.b8 [.agg [.list L],.i .i64 9])) (
 bd (gy 4 48 [.list L]) λaY=>
 gF aY λxs=>
 idx xs x λy1=>
 gA y1 λyT=>
 qT yT λlC fN cO Cf=>
 idx (xs.set (sh x) (.agg (rP lC An cO Cf))) x λy2=>
 gA y2 λur=>
 qT ur λalH aaH IU apD=>
 idx (xs.set (sh x) (.agg (rP lC An cO Cf))) x λy3=>
 gA y3 λcs4=>
 qT cs4 λafR aaI aaJ ahH=>
 some (.b8 [.agg [.list ((xs.set (sh x) (.agg (rP lC An cO Cf))).set (sh x) (.agg (rP afR aaI (bN .i64 (IU+1)) ahH)))],.i .i64 0]))))
def Mo:GT:=bp 173 (adL A0) qY
theorem KV:SG Mo:=nd vR [] 59 [] [] [] Tryz.func173 (by kernel_rfl) (Uu (λ_ _ _ _=>by kernel_rfl))
def pq (w:List MV):Option MV:=aO w λcM cf dY c9 iN cU nw gw eI dD bZ bK fY cN mJ xE dI cg dJ lA=>
 bd (A0 (.agg [.list cM]) (.s eI) (.s dD) (.i .i64 bZ)) λrA=>
 gT rA λvs=>
 gC vs λIC mg=>
 gA IC λcs=>
 gC cs λWs Ai=>
 gL Ws λL=>
 gN Ai<|
 gC mg λWt wJ=>
 gI .i64 Wt λx=>
 gN wJ<|
 bd (fj (au L cf dY c9 iN cU nw gw eI dD bZ bK fY cN mJ x dI cg dJ lA) (.i .i64 2)) λaY=>
 gW aY λx1 ls=>
 aO ls λmi li qx ny vO nz BI vP tJ qy lj lk vQ nA BJ xE1 qz mK qA Ch=>
 bd (
 bB (decide (xE1=0)) (
 bd (sE (.agg [.list mi]) (.s tJ)) λda=>
 gT da λmQ=>
 gC mQ λm43 IE=>
 gA m43 λja=>
 qT ja λPath Value Version dw=>
 gC IE λm48 aaF=>
 gI .i64 m48 λx2=>
 gN aaF<|
 some (0,(au mi li qx ny vO nz BI vP tJ qy lj lk vQ nA BJ xE1 qz Version qA Ch))) (
 some (0,(au mi li qx ny vO nz BI vP tJ qy lj lk vQ nA BJ xE1 qz mK qA Ch)))) λp=>
 cJ (AI p.1 0)<|
 cP .i64 .i64 .i64 .i64 .i64 .i64 .i64 .i64 .i64 .i64 .i64 p.2 λx3 x4 x5 x6 x7 x8 x9 Gk Ir Is It Iu GW Iv FM Iw Kq Rc UG xs=>
 some (.ef (.b8 []) (au x3 x4 x5 x6 x7 x8 x9 Gk Ir Is It Iu GW Iv FM Iw Kq Rc UG xs))
def Ap:GT:=bp 108 (Wr pq) Mo
theorem Cj:SG Ap:=Q8 KV 0 ko [] [(0,1000000)] 64 [] [] [] [(0,[0,1,2,3,4,5,6,7,8,9,10,11,12,13,14,15,16,17,18,19,20,21,22,23,24,25,26,27,28,29,30,31,32,33]),(3,[0,1,2,3,4,5,6,7,8,9,10,11,12,13,14,15,16])] [] [(3,⟨[0],[],[],[(0,[(1000000,.box [.k .l,.k (.i .i64),.k .l,.k .l,.k .l,.k (.i .i64),.k (.i .i64),.k (.i .i64),.k .s,.k .s,.k (.i .i64),.k (.i .i64),.k (.i .i64),.k (.i .i64),.k (.i .i64),.k (.i .i64),.k .s,.k (.i .i64),.k .l,.own 2000019 77 false])])],[]⟩)] [] [] Tryz.func108 (by kernel_rfl) (by kernel_rfl) (tz λ_=>by kernel_rfl)
def iu (s1 s2:MV):Option MV:=gL s1 λtG=>
 gL s2 λze=>
 bO tG λlen=>
 bO ze λeG=>
 bB (!decide ((len:Int)=(eG:Int))) (
 some (.b false)) (
 bO tG λjJ=>
 bd (Loop (λir=>
 gC ir λm gE=>
 gI .i64 m λx=>
 gN gE<|
 bB (decide (x<(jJ:Int))) (
 idx tG x λy=>
 gS y λx1=>
 idx ze x λy1=>
 gS y1 λx2=>
 bB (!decide (x1=x2)) (
 some (.inr (1,[.b false]))) (
 some (.inl [.i .i64 (bN .i64 (x+1))]))) (
 some (.inr (2,[])))) [.i .i64 0]) λp=>
 bB (AI p.1 2) (
 gN p.2<|
 some (.b true)) (
 cJ (AI p.1 1)<|
 gC p.2 λm1 ru=>
 gB m1 λx3=>
 gN ru<|
 some (.b x3)))
def tK:GT:=bp 142 (eE iu) Ap
theorem xR:SG tK:=Gl Cj [] [] 26 [] [] [] [(6,[0,1,2,3,4,5,6,7,8])] [] [] [(4,⟨[0,1,12],[],[(13,.sc (.k (.i .i64)))],[(1,[(4,.sc (.k .b))]),(2,[])],[]⟩)] [] Tryz.func142 (by kernel_rfl) (bo (λ_ _=>by kernel_rfl))
def tT (p q:MV):Option MV:=gS p λp1=>
 gS q λq1=>
 bd (kI (.s p1)) λrA=>
 gT rA λvs=>
 gC vs λm ir=>
 gL m λx=>
 gC ir λm1 gE=>
 gB m1 λx1=>
 gN gE<|
 bd (kI (.s q1)) λaY=>
 gT aY λmQ=>
 gC mQ λm2 ru=>
 gL m2 λx2=>
 gC ru λm3 vL=>
 gB m3 λx3=>
 gN vL<|
 bd (
 bB x1 (
 bB x3 (
 bO x2 λlen=>
 bO x λeG=>
 bB (decide ((eG:Int)<(len:Int))) (
 bO x λjJ=>
 bO x2 λvM=>
 cJ (decide ((0:Int)<=0/\(0:Int)<=(jJ:Int)/\(jJ:Int)<=(vM:Int)))<|
 bd (iu (.list x) (.list (By (sh 0) (BY (sh (jJ:Int)) x2)))) λda=>
 gB da λx4=>
 some [.b x4]) (
 some [.b false])) (
 some [.b false])) (
 some [.b false])) λuu=>
 gC uu λm4 tF=>
 gB m4 λx5=>
 gN tF<|
 some (.b x5)
def IV:GT:=bp 222 (eE tT) tK
theorem IW:SG IV:=nd xR [] 38 [(3,⟨[5,6,7,8],[],[],[(0,[(4,.sc (.k .b))])],[]⟩)] [] [] Tryz.func222 (by kernel_rfl) (bo (λ_ _=>by kernel_rfl))
def se (sA p version:MV):Option MV:=gA sA λcs=>
 gC cs λm ir=>
 gL m λL=>
 gN ir<|
 gS p λp1=>
 gI .i64 version λwN=>
 bd (fR (.agg [.list L]) (.s p1) (.i .i64 wN)) λrA=>
 gT rA λvs=>
 jII vs λx x1=>
 bB (decide (p1=([47]:List UInt8))) (
 some (.b8 [.agg [.list L],.i .i64 13])) (
 bB (!decide (x1=0)) (
 some (.b8 [.agg [.list L],.i .i64 x1])) (
 bd (
 bO L λlen=>
 bB (decide ((bN .i64 (x+1))<(len:Int))) (
 idx L (bN .i64 (x+1)) λy=>
 gA y λja=>
 qT ja λPath Value Version dw=>
 bd (tT (.s p1) (.s Path)) λaY=>
 gB aY λx2=>
 some [.b x2]) (
 some [.b false])) λmQ=>
 gC mQ λm7 Al=>
 gB m7 λx3=>
 gN Al<|
 bB x3 (
 some (.b8 [.agg [.list L],.i .i64 10])) (
 bd (gy 4 48 [.list L]) λda=>
 gF da λxs=>
 bd (qt [.fresh xs,.i .i64 x,.i .i64 (bN .i64 (x+1))]) λrO=>
 gF rO λIF=>
 some (.b8 [.agg [.list IF],.i .i64 0]))))
def Dr:GT:=bp 174 (KP se) IV
theorem EG:SG Dr:=nd IW [] 53 [(6,⟨[1,3,6,8],[],[],[(0,[(26,.sc (.k .b))])],[47,51]⟩)] [] [] Tryz.func174 (by kernel_rfl) (uW (λ_ _ _=>by kernel_rfl))
def lK (w:List MV):Option MV:=aO w λcM cf dY c9 iN cU nw gw eI dD bZ bK fY cN mJ xE dI cg dJ lA=>
 bd (se (.agg [.list cM]) (.s eI) (.i .i64 bZ)) λrA=>
 gT rA λvs=>
 gC vs λIC mg=>
 gA IC λcs=>
 gC cs λWs Ai=>
 gL Ws λL=>
 gN Ai<|
 gC mg λWt wJ=>
 gI .i64 Wt λx=>
 gN wJ<|
 bd (fj (au L cf dY c9 iN cU nw gw eI dD bZ bK fY cN mJ x dI cg dJ lA) (.i .i64 3)) λaY=>
 gW aY λx1 ls=>
 aO ls λmi li qx ny vO nz BI vP tJ qy lj lk vQ nA BJ xE1 qz mK qA Ch=>
 some (.ef (.b8 []) (au mi li qx ny vO nz BI vP tJ qy lj lk vQ nA BJ xE1 qz mK qA Ch))
def vd:GT:=bp 109 (Wr lK) Dr
theorem zh:SG vd:=Q8 EG 0 ko [] [(0,1000000)] 31 [] [] [] [(0,[0,1,2,3,4,5,6,7,8,9,10,11,12,13,14,15,16,17,18,19,20,21,22,23,24,25,26,27,28])] [] [] [] [] Tryz.func109 (by kernel_rfl) (by kernel_rfl) (tz λ_=>by kernel_rfl)
def tU (p:MV):Option MV:=gS p λp1=>
 bd (kI (.s p1)) λrA=>
 gT rA λvs=>
 gC vs λm ir=>
 gL m λx=>
 gC ir λm1 gE=>
 gB m1 λx1=>
 gN gE<|
 bB (!x1) (
 some (.b8 [.list ([]:List MV),.i .i64 13])) (
 some (.b8 [.list x,.i .i64 0]))
def IX:GT:=bp 224 (sZ tU) vd
theorem IZ:SG IX:=nd zh [] 14 [] [] [] Tryz.func224 (by kernel_rfl) (fp (λ_=>by kernel_rfl))
def xS (a a1:MV):Option MV:=gA a λcs=>
 gC cs λm ir=>
 gL m λL=>
 gN ir<|
 gS a1 λsb=>
 bd (iY (.agg [.list L]) (.s sb)) λrA=>
 gT rA λvs=>
 jII vs λx x1=>
 bB (!decide (x1=0)) (
 some (.b8 [.list ([]:List MV),.i .i64 x1])) (
 bd (tU (.s sb)) λaY=>
 gT aY λmQ=>
 Ix mQ λx2 x3=>
 cJ (pS 4 L)<|
 bO L λlen=>
 cJ (decide ((0:Int)<=(bN .i64 (x+1))/\(bN .i64 (x+1))<=(len:Int)/\(len:Int)<=(len:Int)))<|
 bO (By (sh (bN .i64 (x+1))) (BY (sh (len:Int)) L)) λeG=>
 bd (Loop (λxN=>
 Ix xN λxs x4=>
 bB (decide (x4<(eG:Int))) (
 idx (By (sh (bN .i64 (x+1))) (BY (sh (len:Int)) L)) x4 λy=>
 gA y λja=>
 qT ja λPath Value Version dw=>
 bd (tT (.s sb) (.s Path)) λda=>
 gB da λx5=>
 bB (!x5) (
 some (.inr (2,[.list xs]))) (
 bd (tU (.s Path)) λrO=>
 gT rO λuu=>
 Ix uu λx6 x7=>
 bO x6 λjJ=>
 bO x2 λvM=>
 bd (
 bB (decide ((jJ:Int)=(bN .i64 ((vM:Int)+1)))) (
 bO x2 λCk=>
 idx x6 (Ck:Int) λy1=>
 gS y1 λx8=>
 bO xs λaaK=>
 bO ([.s x8]:List MV) λQs=>
 cJ (decide ((aaK+Qs) *16<=2^46))<|
 some (0,[.list (xs++([.s x8]:List MV))])) (
 some (0,[.list xs]))) λp1=>
 cJ (AI p1.1 0)<|
 gC p1.2 λWg I3=>
 gL Wg λIF=>
 gN I3<|
 some (.inl [.list IF,.i .i64 (bN .i64 (x4+1))]))) (
 some (.inr (2,[.list xs])))) [.list ([]:List MV),.i .i64 0]) λp=>
 cJ (AI p.1 2)<|
 gC p.2 λm14 aaL=>
 gL m14 λxs2=>
 gN aaL<|
 some (.b8 [.list xs2,.i .i64 0]))
def I4:GT:=bp 175 (eE xS) IX
theorem I5:SG I4:=Gl IZ [] [] 66 [62] [] [] [] [] [(12,⟨[1,8,13,33,34,35],[],[],[(0,[(10,.sc (.own 63 9 true))])],[63]⟩)] [(7,⟨[1,8,33,34],[],[(10,.sc (.own 63 9 true)),(35,.sc (.k (.i .i64)))],[(2,[(10,.sc (.own 63 9 true))])],[63]⟩)] [] Tryz.func175 (by kernel_rfl) (bo (λ_ _=>by kernel_rfl))
def nN (w:List MV):Option MV:=aO w λcM cf dY c9 iN cU nw gw eI dD bZ bK fY cN mJ xE dI cg dJ lA=>
 bd (xS (.agg [.list cM]) (.s eI)) λrA=>
 gT rA λvs=>
 Ix vs λx x1=>
 some (.ef (.b8 []) (au cM cf dY c9 iN cU nw gw eI dD bZ bK fY cN mJ x1 dI cg x lA))
def yF:GT:=bp 110 (Wr nN) I4
theorem Bq:SG yF:=Q8 I5 0 ko [] [(0,1000000)] 24 [] [] [] [(0,[0,1,2,3,4,5,6,7,8,9,10,11,12,13,14,15,16,17,18,19,20,21,22,23])] [] [] [] [] Tryz.func110 (by kernel_rfl) (by kernel_rfl) (tz λ_=>by kernel_rfl)
def xT (b id span:MV):Option MV:=gA b λcs=>
 Uz cs λiT L=>
 gI .i64 id λRe=>
 gI .i64 span λMp=>
 bd (gn (.agg [.i .i64 iT,.list L]) (.i .i64 Re)) λrA=>
 gT rA λvs=>
 Uy vs λx x1=>
 bd (
 bB (decide (Re<1)) (
 some [.b true]) (
 bB (decide (Mp<1)) (
 some [.b true]) (
 some [.b (decide ((1000:Int)<Mp))]))) λmQ=>
 gC mQ λm4 tF=>
 gB m4 λx2=>
 gN tF<|
 bB x2 (
 some (.b8 [.agg [.i .i64 iT,.list L],.i .i64 1])) (
 bB x1 (
 some (.b8 [.agg [.i .i64 iT,.list L],.i .i64 7])) (
 bO L λlen=>
 bB (decide ((50:Int)<=(len:Int))) (
 some (.b8 [.agg [.i .i64 iT,.list L],.i .i64 9])) (
 both (
 bd (gy 3 24 [.list L]) λaY=>
 gF aY λxs=>
 bd (kz 24 [.fresh xs,.i .i64 x,.fresh ([.agg [.i .i64 Re,.i .i64 Mp,.i .i64 (bN .i64 (iT+Mp))]]:List MV)]) λda=>
 gF da λIF=>
 some (.b8 [.agg [.i .i64 iT,.list IF],.i .i64 0])) (
 bd (gy 3 24 [.list L]) λrO=>
 gF rO λxs2=>
 bd (kz 24 [.fresh xs2,.i .i64 x,.fresh ([.agg [.i .i64 Re,.i .i64 Mp,.i .i64 (bN .i64 (iT+Mp))]]:List MV)]) λFL=>
 gF FL λxs3=>
 some (.b8 [.agg [.i .i64 iT,.list xs3],.i .i64 0])))))
def I6:GT:=bp 176 (KP xT) yF
theorem I7:SG I6:=Gl Bq [] [] 52 [] [] [] [(8,[0,1,3,4,5,6,7,8,9,10,2,11,12,13,14,0,1,3,4,5,6,7,8,9,10,11,2,12,13,14,15,2,11])] [(2,⟨[1,2,3,6,8,9],[],[],[(0,[(16,.sc (.k .b))])],[39,48,49]⟩)] [] [] [] Tryz.func176 (by kernel_rfl) (uW (λ_ _ _=>by kernel_rfl))
def nO (w:List MV):Option MV:=aO w λcM cf dY c9 iN cU nw gw eI dD bZ bK fY cN mJ xE dI cg dJ lA=>
 bd (xT (.agg [.i .i64 cf,.list dY]) (.i .i64 bK) (.i .i64 fY)) λrA=>
 gT rA λvs=>
 gC vs λIC mg=>
 gA IC λcs=>
 Uz cs λiT L=>
 gC mg λWu wK=>
 gI .i64 Wu λx=>
 gN wK<|
 some (.ef (.b8 []) (au cM iT L c9 iN cU nw gw eI dD bZ bK fY cN mJ x dI cg dJ lA))
def yG:GT:=bp 111 (Wr nO) I6
theorem Br:SG yG:=Q8 I7 0 ko [] [(0,1000000)] 29 [] [] [] [(0,[0,1,2,3,4,5,6,7,8,9,10,11,12,13,14,15,16,17,18,19,20,21,22,23,24,25,26,27,28])] [] [] [] [] Tryz.func111 (by kernel_rfl) (by kernel_rfl) (tz λ_=>by kernel_rfl)
def ve (b id:MV):Option MV:=gA b λcs=>
 Uz cs λiT L=>
 gI .i64 id λRe=>
 bd (gn (.agg [.i .i64 iT,.list L]) (.i .i64 Re)) λrA=>
 gT rA λvs=>
 Uy vs λx x1=>
 bB (!x1) (
 some (.b8 [.agg [.i .i64 iT,.list L],.i .i64 14])) (
 bd (gy 3 24 [.list L]) λaY=>
 gF aY λxs=>
 idx xs x λy=>
 gA y λja=>
 Qi ja λId Span lz=>
 idx xs x λy1=>
 gA y1 λyT=>
 Qi yT λId1 Af Og=>
 some (.b8 [.agg [.i .i64 iT,.list (xs.set (sh x) (.agg [.i .i64 Id1,.i .i64 Af,.i .i64 (bN .i64 (iT+Span))]))],.i .i64 0]))
def FU:GT:=bp 177 (eE ve) yG
theorem Gp:SG FU:=Gl Br [] [] 36 [] [] [] [(5,[0,1,2,3,4,5,6,7,8,9,10,11,12,13,14])] [] [] [] [] Tryz.func177 (by kernel_rfl) (bo (λ_ _=>by kernel_rfl))
def mL (w:List MV):Option MV:=aO w λcM cf dY c9 iN cU nw gw eI dD bZ bK fY cN mJ xE dI cg dJ lA=>
 bd (ve (.agg [.i .i64 cf,.list dY]) (.i .i64 bK)) λrA=>
 gT rA λvs=>
 gC vs λIC mg=>
 gA IC λcs=>
 Uz cs λiT L=>
 gC mg λWu wK=>
 gI .i64 Wu λx=>
 gN wK<|
 some (.ef (.b8 []) (au cM iT L c9 iN cU nw gw eI dD bZ bK fY cN mJ x dI cg dJ lA))
def wO:GT:=bp 112 (Wr mL) FU
theorem Aq:SG wO:=Q8 Gp 0 ko [] [(0,1000000)] 24 [] [] [] [(0,[0,1,2,3,4,5,6,7,8,9,10,11,12,13,14,15,16,17,18,19,20,21,22,23])] [] [] [] [] Tryz.func112 (by kernel_rfl) (by kernel_rfl) (tz λ_=>by kernel_rfl)
def vf (b id:MV):Option MV:=gA b λcs=>
 Uz cs λiT L=>
 gI .i64 id λRe=>
 bd (gn (.agg [.i .i64 iT,.list L]) (.i .i64 Re)) λrA=>
 gT rA λvs=>
 Uy vs λx x1=>
 bB (!x1) (
 some (.b8 [.agg [.i .i64 iT,.list L],.i .i64 14])) (
 bd (gy 3 24 [.list L]) λaY=>
 gF aY λxs=>
 bd (qt [.fresh xs,.i .i64 x,.i .i64 (bN .i64 (x+1))]) λda=>
 gF da λIF=>
 some (.b8 [.agg [.i .i64 iT,.list IF],.i .i64 0]))
def FV:GT:=bp 178 (eE vf) wO
theorem Gq:SG FV:=nd Aq [] 26 [] [] [] Tryz.func178 (by kernel_rfl) (bo (λ_ _=>by kernel_rfl))
def xU (sA owner:MV):Option MV:=gA sA λcs=>
 gC cs λm ir=>
 gL m λL=>
 gN ir<|
 gI .i64 owner λEE=>
 bO L λlen=>
 bd (Loop (λgE=>
 gC gE λm1 ru=>
 gL m1 λgone=>
 Ix ru λt x=>
 bB (decide (x<(len:Int))) (
 idx L x λy=>
 gA y λja=>
 qT ja λPath Value Version dw=>
 bd (
 bB (decide ((0:Int)<EE)) (
 some [.b (decide (dw=EE))]) (
 some [.b false])) λvs=>
 gC vs λm8 Iy=>
 gB m8 λx1=>
 gN Iy<|
 bB x1 (
 bO gone λeG=>
 bO ([.s Path]:List MV) λjJ=>
 cJ (decide ((eG+jJ) *16<=2^46))<|
 some (.inl [.list (gone++([.s Path]:List MV)),.list t,.i .i64 (bN .i64 (x+1))])) (
 bO t λvM=>
 bO ([.agg (rP Path Value Version dw)]:List MV) λCk=>
 cJ (decide ((vM+Ck) *48<=2^46))<|
 some (.inl [.list gone,.list (t++([.agg (rP Path Value Version dw)]:List MV)),.i .i64 (bN .i64 (x+1))]))) (
 some (.inr (2,[.list gone,.list t])))) [.list ([]:List MV),.list ([]:List MV),.i .i64 0]) λp=>
 cJ (AI p.1 2)<|
 gC p.2 λm9 tA=>
 gL m9 λaaM=>
 gC tA λWf Ad=>
 gL Wf λt1=>
 gN Ad<|
 some (.b8 [.agg [.list t1],.list aaM])
def I8:GT:=bp 228 (eE xU) FV
theorem I9:SG I8:=Gl Gq [] [] 40 [29,34] [] [] [] [(6,⟨[1,4,6,7,9,12,13,14],[30,35],[],[(0,[(25,.sc (.k .b))])],[30,35]⟩)] [] [(4,⟨[1,4,12,13],[],[(6,.sc (.own 30 9 true)),(7,.box [.own 35 98 true]),(14,.sc (.k (.i .i64)))],[(2,[(6,.sc (.own 30 9 true)),(7,.box [.own 35 98 true])])],[30,35]⟩)] [] Tryz.func228 (by kernel_rfl) (bo (λ_ _=>by kernel_rfl))
def kW (w:List MV)(id:MV):Option MV:=gI .i64 id λRe=>
 aO w λcM cf dY c9 iN cU nw gw eI dD bZ bK fY cN mJ xE dI cg dJ lA=>
 bd (xU (.agg [.list cM]) (.i .i64 Re)) λrA=>
 gT rA λvs=>
 gC vs λIC mg=>
 gA IC λcs=>
 gC cs λWs Ai=>
 gL Ws λL=>
 gN Ai<|
 gC mg λWt wJ=>
 gL Wt λx=>
 gN wJ<|
 bO x λlen=>
 bd (Loop (λwK=>
 gC wK λWu Qn=>
 gI .i64 Wu λx1=>
 aO Qn λx2 x3 x4 x5 x6 x7 x8 x9 Gk Ir Is It Iu GW Iv FM Iw Kq Rc xs=>
 bB (decide (x1<(len:Int))) (
 idx x x1 λy=>
 gS y λUG=>
 bO xs λeG=>
 bO ([.agg [.i .i64 3,.s UG]]:List MV) λjJ=>
 cJ (decide ((eG+jJ) *24<=2^46))<|
 some (.inl [.i .i64 (bN .i64 (x1+1)),.list x2,.i .i64 x3,.list x4,.list x5,.list x6,.i .i64 x7,.i .i64 x8,.i .i64 x9,.s Gk,.s Ir,.i .i64 Is,.i .i64 It,.i .i64 Iu,.i .i64 GW,.i .i64 Iv,.i .i64 FM,.s Iw,.i .i64 Kq,.list Rc,.list (xs++([.agg [.i .i64 3,.s UG]]:List MV))])) (
 some (.inr (2,(au x2 x3 x4 x5 x6 x7 x8 x9 Gk Ir Is It Iu GW Iv FM Iw Kq Rc xs))))) [.i .i64 0,.list L,.i .i64 cf,.list dY,.list c9,.list iN,.i .i64 cU,.i .i64 nw,.i .i64 gw,.s eI,.s dD,.i .i64 bZ,.i .i64 bK,.i .i64 fY,.i .i64 cN,.i .i64 mJ,.i .i64 xE,.s dI,.i .i64 cg,.list dJ,.list lA]) λp=>
 cJ (AI p.1 2)<|
 cP .i64 .i64 .i64 .i64 .i64 .i64 .i64 .i64 .i64 .i64 .i64 p.2 λx22 UH x24 x25 x26 x27 x28 x29 x30 x31 x32 x33 x34 x35 x36 x37 x38 x39 x40 IF=>
 some (.ef (.b8 []) (au x22 UH x24 x25 x26 x27 x28 x29 x30 x31 x32 x33 x34 x35 x36 x37 x38 x39 x40 IF))
def yH:GT:=bp 179 (cl2 kW) I8
theorem Bs:SG yH:=Q8 I9 0 ko [] [(0,1000000)] 41 [36] [] [] [] [] [] [(3,⟨[0,23,24],[],[(25,.sc (.k (.i .i64))),(1000000,.box [.k .l,.k (.i .i64),.k .l,.k .l,.k .l,.k (.i .i64),.k (.i .i64),.k (.i .i64),.k .s,.k .s,.k (.i .i64),.k (.i .i64),.k (.i .i64),.k (.i .i64),.k (.i .i64),.k (.i .i64),.k .s,.k (.i .i64),.k .l,.own 2000019 77 false])],[(2,[(1000000,.box [.k .l,.k (.i .i64),.k .l,.k .l,.k .l,.k (.i .i64),.k (.i .i64),.k (.i .i64),.k .s,.k .s,.k (.i .i64),.k (.i .i64),.k (.i .i64),.k (.i .i64),.k (.i .i64),.k (.i .i64),.k .s,.k (.i .i64),.k .l,.own 2000019 77 false])])],[]⟩)] [] Tryz.func179 (by kernel_rfl) (by kernel_rfl) (aay λ_ _=>by kernel_rfl)
def mM (w:List MV):Option MV:=aO w λcM cf dY c9 iN cU nw gw eI dD bZ bK fY cN mJ xE dI cg dJ lA=>
 bd (vf (.agg [.i .i64 cf,.list dY]) (.i .i64 bK)) λrA=>
 gT rA λvs=>
 gC vs λIC mg=>
 gA IC λcs=>
 Uz cs λiT L=>
 gC mg λWu wK=>
 gI .i64 Wu λx=>
 gN wK<|
 bd (
 bB (decide (x=0)) (
 bd (kW (au cM iT L c9 iN cU nw gw eI dD bZ bK fY cN mJ x dI cg dJ lA) (.i .i64 bK)) λaY=>
 gW aY λx1 ls=>
 aO ls λmi li qx ny vO nz BI vP tJ qy lj lk vQ nA BJ xE1 qz mK qA Ch=>
 some (0,(au mi li qx ny vO nz BI vP tJ qy lj lk vQ nA BJ xE1 qz mK qA Ch))) (
 some (0,(au cM iT L c9 iN cU nw gw eI dD bZ bK fY cN mJ x dI cg dJ lA)))) λp=>
 cJ (AI p.1 0)<|
 cP .i64 .i64 .i64 .i64 .i64 .i64 .i64 .i64 .i64 .i64 .i64 p.2 λx2 x3 x4 x5 x6 x7 x8 x9 Gk Ir Is It Iu GW Iv FM Iw Kq Rc xs=>
 some (.ef (.b8 []) (au x2 x3 x4 x5 x6 x7 x8 x9 Gk Ir Is It Iu GW Iv FM Iw Kq Rc xs))
def wP:GT:=bp 113 (Wr mM) yH
theorem Ar:SG wP:=Q8 Bs 0 ko [] [(0,1000000)] 37 [] [] [] [(0,[0,1,2,3,4,5,6,7,8,9,10,11,12,13,14,15,16,17,18,19,20,21,22,23])] [] [(2,⟨[0],[],[],[(0,[(1000000,.box [.k .l,.k (.i .i64),.k .l,.k .l,.k .l,.k (.i .i64),.k (.i .i64),.k (.i .i64),.k .s,.k .s,.k (.i .i64),.k (.i .i64),.k (.i .i64),.k (.i .i64),.k (.i .i64),.k (.i .i64),.k .s,.k (.i .i64),.k .l,.own 2000019 77 false])])],[]⟩)] [] [] Tryz.func113 (by kernel_rfl) (by kernel_rfl) (tz λ_=>by kernel_rfl)
def xV (b now:MV):Option MV:=gA b λcs=>
 Uz cs λiT L=>
 gI .i64 now λaee=>
 bB (decide (aee<iT)) (
 some (.b8 [.agg [.i .i64 iT,.list L],.list ([]:List MV),.i .i64 15])) (
 bB (decide ((1000000000:Int)<aee)) (
 some (.b8 [.agg [.i .i64 iT,.list L],.list ([]:List MV),.i .i64 5])) (
 bO L λlen=>
 bd (Loop (λru=>
 gC ru λm2 vL=>
 gL m2 λgone=>
 gC vL λm3 tF=>
 gI .i64 m3 λout=>
 Ix tF λDs x=>
 bB (decide (x<(len:Int))) (
 idx L x λy=>
 gA y λja=>
 Qi ja λId Span lz=>
 bB (decide (lz<=aee)) (
 bO gone λeG=>
 bO ([.i .i64 Id]:List MV) λjJ=>
 cJ (decide ((eG+jJ) *8<=2^46))<|
 some (.inl [.list (gone++([.i .i64 Id]:List MV)),.i .i64 out,.list Ds,.i .i64 (bN .i64 (x+1))])) (
 bO Ds λvM=>
 bO ([.agg [.i .i64 Id,.i .i64 Span,.i .i64 lz]]:List MV) λCk=>
 cJ (decide ((vM+Ck) *24<=2^46))<|
 some (.inl [.list gone,.i .i64 out,.list (Ds++([.agg [.i .i64 Id,.i .i64 Span,.i .i64 lz]]:List MV)),.i .i64 (bN .i64 (x+1))]))) (
 some (.inr (3,[.list gone,.i .i64 out,.list Ds])))) [.list ([]:List MV),.i .i64 aee,.list ([]:List MV),.i .i64 0]) λp=>
 cJ (AI p.1 3)<|
 gC p.2 λm9 tA=>
 gL m9 λaaM=>
 Uz tA λahI apE=>
 some (.b8 [.agg [.i .i64 ahI,.list apE],.list aaM,.i .i64 0])))
def Ja:GT:=bp 180 (eE xV) wP
theorem Jb:SG Ja:=Gl Ar [] [] 48 [37,42] [] [] [] [] [] [(8,⟨[1,4,24,25],[],[(7,.sc (.own 38 3 true)),(8,.box [.k (.i .i64),.own 43 126 true]),(26,.sc (.k (.i .i64)))],[(3,[(7,.sc (.own 38 3 true)),(8,.box [.k (.i .i64),.own 43 126 true])])],[38,43]⟩)] [] Tryz.func180 (by kernel_rfl) (bo (λ_ _=>by kernel_rfl))
def nP (w:List MV):Option MV:=aO w λcM cf dY c9 iN cU nw gw eI dD bZ bK fY cN mJ xE dI cg dJ lA=>
 bd (xV (.agg [.i .i64 cf,.list dY]) (.i .i64 fY)) λrA=>
 gT rA λvs=>
 gC vs λIC mg=>
 gA IC λcs=>
 Uz cs λiT L=>
 Ix mg λx x1=>
 bB (!decide (x1=0)) (
 some (.ef (.b8 []) (au cM cf dY c9 iN cU nw gw eI dD bZ bK fY cN mJ x1 dI cg dJ lA))) (
 bO x λlen=>
 bd (Loop (λID=>
 gC ID λm25 Qo=>
 gI .i64 m25 λx2=>
 aO Qo λx3 x4 x5 x6 x7 x8 x9 Gk Ir Is It Iu GW Iv FM Iw Kq Rc UG xs=>
 bB (decide (x2<(len:Int))) (
 idx x x2 λy=>
 gI .i64 y λx22=>
 bd (kW (au x3 x4 x5 x6 x7 x8 x9 Gk Ir Is It Iu GW Iv FM Iw Kq Rc UG xs) (.i .i64 x22)) λaY=>
 gW aY λUH ls=>
 aO ls λmi li qx ny vO nz BI vP tJ qy lj lk vQ nA BJ xE1 qz mK qA Ch=>
 some (.inl [.i .i64 (bN .i64 (x2+1)),.list mi,.i .i64 li,.list qx,.list ny,.list vO,.i .i64 nz,.i .i64 BI,.i .i64 vP,.s tJ,.s qy,.i .i64 lj,.i .i64 lk,.i .i64 vQ,.i .i64 nA,.i .i64 BJ,.i .i64 xE1,.s qz,.i .i64 mK,.list qA,.list Ch])) (
 some (.inr (2,(au x3 x4 x5 x6 x7 x8 x9 Gk Ir Is It Iu GW Iv FM Iw Kq Rc UG xs))))) [.i .i64 0,.list cM,.i .i64 iT,.list L,.list c9,.list iN,.i .i64 cU,.i .i64 nw,.i .i64 gw,.s eI,.s dD,.i .i64 bZ,.i .i64 bK,.i .i64 fY,.i .i64 cN,.i .i64 mJ,.i .i64 x1,.s dI,.i .i64 iT,.list dJ,.list lA]) λp=>
 cJ (AI p.1 2)<|
 cP .i64 .i64 .i64 .i64 .i64 .i64 .i64 .i64 .i64 .i64 .i64 p.2 λx24 x25 x26 x27 x28 x29 x30 x31 x32 x33 x34 x35 x36 x37 x38 x39 x40 x41 x42 IF=>
 some (.ef (.b8 []) (au x24 x25 x26 x27 x28 x29 x30 x31 x32 x33 x34 x35 x36 x37 x38 x39 x40 x41 x42 IF)))
def yI:GT:=bp 114 (Wr nP) Ja
theorem Bt:SG yI:=Q8 Jb 0 ko [] [(0,1000000)] 50 [] [33] [(1,[2])] [(0,[0,1,2,3,4,5,6,7,8,9,10,11,12,13,14,15,16,17,18]),(3,[0,1,2,3,4,5,6,7,8,9,10,11,12])] [] [] [(5,⟨[0,40,41],[],[(42,.sc (.k (.i .i64))),(1000000,.box [.k .l,.k (.i .i64),.k .l,.k .l,.k .l,.k (.i .i64),.k (.i .i64),.k (.i .i64),.k .s,.k .s,.k (.i .i64),.k (.i .i64),.k (.i .i64),.k (.i .i64),.k (.i .i64),.k (.i .i64),.k .s,.k (.i .i64),.k .l,.own 2000019 77 false])],[(2,[(1000000,.box [.k .l,.k (.i .i64),.k .l,.k .l,.k .l,.k (.i .i64),.k (.i .i64),.k (.i .i64),.k .s,.k .s,.k (.i .i64),.k (.i .i64),.k (.i .i64),.k (.i .i64),.k (.i .i64),.k (.i .i64),.k .s,.k (.i .i64),.k .l,.own 2000019 77 false])])],[]⟩)] [] Tryz.func114 (by kernel_rfl) (by kernel_rfl) (tz λ_=>by kernel_rfl)
def gJ (sA v:MV):Option MV:=gL sA λni=>
 gA v λcs=>
 Qj cs λPath Client Kids=>
 bO ni λlen=>
 bd (Loop (λvL=>
 gC vL λm3 tF=>
 gI .i64 m3 λx=>
 gN tF<|
 bB (decide (x<(len:Int))) (
 idx ni x λy=>
 gA y λja=>
 Qj ja λlC dN aaN=>
 bB ((decide (Path=lC))&&((decide (Client=dN))&&(decide (Kids=aaN)))) (
 some (.inr (1,[.i .i64 x]))) (
 some (.inl [.i .i64 (bN .i64 (x+1))]))) (
 some (.inr (2,[])))) [.i .i64 0]) λp=>
 bB (AI p.1 2) (
 gN p.2<|
 some (.i .i64 (-1))) (
 cJ (AI p.1 1)<|
 gC p.2 λm7 vI=>
 gI .i64 m7 λx1=>
 gN vI<|
 some (.i .i64 x1))
def pu:GT:=bp 250 (eE gJ) yI
theorem tV:SG pu:=Gl Bt [] [] 19 [] [] [] [(4,[0,1,2,3,4,5])] [] [] [(2,⟨[0,3,7],[],[(8,.sc (.k (.i .i64)))],[(1,[(4,.sc (.k (.i .i64)))]),(2,[])],[]⟩)] [] Tryz.func250 (by kernel_rfl) (bo (λ_ _=>by kernel_rfl))
def eX (sA v:MV):Option MV:=gL sA λni=>
 gA v λcs=>
 Qj cs λPath Client Kids=>
 bd (gJ (.list ni) (.agg [.s Path,.i .i64 Client,.b Kids])) λrA=>
 gI .i64 rA λx=>
 some (.b (decide ((0:Int)<=x)))
def mU:GT:=bp 229 (eE eX) pu
theorem qZ:SG mU:=nd tV [] 9 [] [] [] Tryz.func229 (by kernel_rfl) (bo (λ_ _=>by kernel_rfl))
def A3 (t w:MV):Option MV:=gA t λcs=>
 gC cs λm ir=>
 gL m λL=>
 gN ir<|
 gA w λja=>
 Qj ja λPath Client Kids=>
 bd (mh (.s Path)) λrA=>
 gB rA λx=>
 bB (!x) (
 some (.b8 [.agg [.list L],.i .i64 13])) (
 bB (decide (Client<0)) (
 some (.b8 [.agg [.list L],.i .i64 1])) (
 bd (eX (.list L) (.agg [.s Path,.i .i64 Client,.b Kids])) λaY=>
 gB aY λx1=>
 bB x1 (
 some (.b8 [.agg [.list L],.i .i64 0])) (
 bO L λlen=>
 bB (decide ((200:Int)<=(len:Int))) (
 some (.b8 [.agg [.list L],.i .i64 9])) (
 both (
 bd (gy 3 32 [.list L]) λda=>
 gF da λxs=>
 bO xs λeG=>
 bO ([.agg [.s Path,.i .i64 Client,.b Kids]]:List MV) λjJ=>
 cJ (decide ((eG+jJ) *32<=2^46))<|
 some (.b8 [.agg [.list (xs++([.agg [.s Path,.i .i64 Client,.b Kids]]:List MV))],.i .i64 0])) (
 bd (gy 3 32 [.list L]) λrO=>
 gF rO λIF=>
 bO IF λvM=>
 bO ([.agg [.s Path,.i .i64 Client,.b Kids]]:List MV) λCk=>
 cJ (decide ((vM+Ck) *32<=2^46))<|
 some (.b8 [.agg [.list (IF++([.agg [.s Path,.i .i64 Client,.b Kids]]:List MV))],.i .i64 0]))))))
def Mq:GT:=bp 181 (eE A3) mU
theorem KW:SG Mq:=Gl qZ [] [] 36 [33] [] [] [(9,[0,1,3,2,4,5,6,7,8,0,1,3,4,2,5,6,7,8,9,2,4])] [] [] [] [] Tryz.func181 (by kernel_rfl) (bo (λ_ _=>by kernel_rfl))
def mN (w:List MV):Option MV:=aO w λcM cf dY c9 iN cU nw gw eI dD bZ bK fY cN mJ xE dI cg dJ lA=>
 bd (A3 (.agg [.list c9]) (.agg [.s eI,.i .i64 cU,.b (decide (gw=11))])) λrA=>
 gT rA λvs=>
 gC vs λIC mg=>
 gA IC λcs=>
 gC cs λWs Ai=>
 gL Ws λL=>
 gN Ai<|
 gC mg λWt wJ=>
 gI .i64 Wt λx=>
 gN wJ<|
 some (.ef (.b8 []) (au cM cf dY L iN cU nw gw eI dD bZ bK fY cN mJ x dI cg dJ lA))
def wQ:GT:=bp 115 (Wr mN) Mq
theorem As:SG wQ:=Q8 KW 0 ko [] [(0,1000000)] 38 [] [] [] [(0,[0,1,2,3,4,5,6,7,8,9,10,11,12,13,14,15,16,17,18]),(1,[0,1,2,3,4,5,6,7,8,9,10,11,12,13,14,15,16,17,18,19])] [] [] [] [] Tryz.func115 (by kernel_rfl) (by kernel_rfl) (tz λ_=>by kernel_rfl)
def xW:Option MV:=some (.list ([.func 105 [],.func 106 [],.func 107 [],.func 108 [],.func 109 [],.func 110 [],.func 111 [],.func 112 [],.func 113 [],.func 114 [],.func 115 [],.func 115 []]:List MV))
def Jc:GT:=bp 59 (Sp xW) wQ
theorem Jd:SG Jc:=Gl As [] [] 2 [1] [] [] [] [] [] [] [] Tryz.func59 (by kernel_rfl) (Dg (by kernel_rfl))
def qB (c w:MV):Option MV:=gA c λcs=>
 gC cs λm ir=>
 gI .i64 m λKind=>
 gC ir λm1 gE=>
 gS m1 λPath=>
 gN gE<|
 gA w λja=>
 Qj ja λlC Client Kids=>
 bd (
 bB (decide (Kind<1)) (
 some [.b true]) (
 bB (decide ((3:Int)<Kind)) (
 some [.b true]) (
 bd (mh (.s Path)) λrA=>
 gB rA λx=>
 some [.b (!x)]))) λvs=>
 gC vs λm5 xN=>
 gB m5 λx1=>
 gN xN<|
 bB x1 (
 some (.b false)) (
 bB (!Kids) (
 some (.b (decide (Path=lC)))) (
 bd (qX (.s Path)) λaY=>
 gT aY λmQ=>
 gC mQ λm6 ED=>
 gS m6 λx2=>
 gC ED λm7 Al=>
 gI .i64 m7 λx3=>
 gN Al<|
 bd (
 bB (decide (x3=0)) (
 bB (!decide (Kind=2)) (
 some [.b (decide (x2=lC))]) (
 some [.b false])) (
 some [.b false])) λuu=>
 gC uu λm8 vI=>
 gB m8 λx4=>
 gN vI<|
 some (.b x4)))
def qC:GT:=bp 27 (eE qB) Jc
theorem Dt:SG qC:=nd Jd [] 48 [(6,⟨[2,3,5,6],[],[],[(0,[(4,.sc (.k .b))])],[]⟩),(1,⟨[2,3],[],[],[(0,[(20,.sc (.k .b))])],[]⟩)] [] [] Tryz.func27 (by kernel_rfl) (bo (λ_ _=>by kernel_rfl))
def BK:Ctx:=UE qC [(2,1000002)] 17 [14] [] [] [] [] [(3,⟨[1,2,3,5],[],[],[(0,[(1000002,.box [.own 2000000 79 false])])],[]⟩)] [] []
def pv (w:MV)(c:MV)(c1:List MV):Option MV:=gA w λcs=>
 Qj cs λPath Client Kids=>
 gP c λja=>
 gC ja λm3 vL=>
 gI .i64 m3 λKind=>
 gC vL λm4 tF=>
 gS m4 λlC=>
 gN tF<|
 gC c1 λm5 xN=>
 gL m5 λx=>
 gN xN<|
 bd (qB (.agg [.i .i64 Kind,.s lC]) (.agg [.s Path,.i .i64 Client,.b Kids])) λrA=>
 gB rA λx1=>
 bd (
 bB x1 (
 bO x λlen=>
 bO ([.agg [.s Path,.i .i64 Client,.b Kids,.i .i64 Kind,.s lC]]:List MV) λeG=>
 cJ (decide ((len+eG) *56<=2^46))<|
 some (0,[.list (x++([.agg [.s Path,.i .i64 Client,.b Kids,.i .i64 Kind,.s lC]]:List MV))])) (
 some (0,[.list x]))) λp=>
 cJ (AI p.1 0)<|
 gC p.2 λm6 ED=>
 gL m6 λxs=>
 gN ED<|
 some (.ef (.b x1) [.list xs])
theorem Gr (w:MV)(c:MV)(c1:List MV):Lo BK [[.i .i64,.s],[]] 2 UD Tryz.f118 [w,c,.cell (.func 0 c1)]=pv w c c1:=by kernel_rfl
abbrev xX:List MV->Option MV:=λms=>match ms with|[a0,a1,.cell (.func off a2)]=>(match AI off 0 with|true=>pv a0 a1 a2|false=>none)|_=>none
theorem Gs {ms:List MV}{r:MV}(h:xX ms=some r): ∃c':Ctx,C9 cx c'/\c'.g=qC/\T6 c' 118 Tryz.f118 [[.i .i64,.s],[]]=true/\Lo c' [[.i .i64,.s],[]] 2 UD Tryz.f118 ms=some r:=by
 unfold xX at h;split at h
 ·rename_i a0 a1 off a2;cases ho0:AI off 0 with
  |true=>have:=No ho0;subst this;exact ⟨BK,⟨rfl,rfl,rfl,rfl,rfl,rfl,rfl,rfl,rfl⟩,rfl,by kernel_rfl,(Gr _ _ _).trans h⟩
  |false=>
  rw [ho0] at h;simp only at h;cases h
 ·cases h
def xY:GT:=bp 118 xX qC
theorem EH:SG xY:=Dt.Q8 (pos:=2) (ks:=UD) (bV:=[[.i .i64,.s],[]]) n7 Uw UC UF vH GX Tryz.func118 (by kernel_rfl) (λ_=>rfl) Gs
def Du:GT:=xY
theorem xZ (x0:MV)(x1:MV)(x2:List MV):Du 118 [x0,x1,.cell (.func 0 x2)]=pv x0 x1 x2:=by kernel_rfl
def ya (t lA:MV):Option MV:=gA t λcs=>
 gC cs λm ir=>
 gL m λL=>
 gN ir<|
 gL lA λCh=>
 bd (gy 3 32 [.list L]) λrA=>
 gF rA λxs=>
 bO Ch λlen=>
 bd (Loop (λgE=>
 gC gE λm1 ru=>
 gL m1 λleft=>
 Ix ru λout x=>
 bB (decide (x<(len:Int))) (
 idx Ch x λy=>
 gA y λja=>
 gC ja λm4 xN=>
 gI .i64 m4 λKind=>
 gC xN λm5 ED=>
 gS m5 λPath=>
 gN ED<|
 cJ (left.all Rr)<|
 bd (nm (Ln Du 118 [.rp [.i .i64 Kind,.s Path]]) [.list out] left) λaY=>
 gC aY.2 λm6 Al=>
 gL m6 λx1=>
 gN Al<|
 some (.inl [.list aY.1,.list x1,.i .i64 (bN .i64 (x+1))])) (
 some (.inr (2,[.list left,.list out])))) [.list xs,.list ([]:List MV),.i .i64 0]) λp=>
 cJ (AI p.1 2)<|
 gC p.2 λm7 vI=>
 gL m7 λalI=>
 gC vI λm8 Iy=>
 gL m8 λDs=>
 gN Iy<|
 some (.b8 [.agg [.list alI],.list Ds])
def Cl:GT:=bp 60 (eE ya) xY
theorem Je:SG Cl:=Gl EH [] [] 26 [] [25] [(8,[7])] [(8,[0,1,2,3,4])] [] [] [(4,⟨[4,13,14],[],[(6,.sc (.own 12 75 false)),(7,.box [.own 2000000 79 false]),(15,.sc (.k (.i .i64)))],[(2,[(6,.sc (.own 12 75 false)),(7,.box [.own 2000000 79 false])])],[]⟩)] [] Tryz.func60 (by kernel_rfl) (bo (λ_ _=>by kernel_rfl))
def dg:GT:=Cl
theorem q0 (x0:List MV):dg 105 [.cell (.func 0 x0)]=kG x0:=by kernel_rfl
theorem rz (x0:List MV):dg 106 [.cell (.func 0 x0)]=lJ x0:=by kernel_rfl
theorem uy (x0:List MV):dg 107 [.cell (.func 0 x0)]=po x0:=by kernel_rfl
theorem uA (x0:List MV):dg 108 [.cell (.func 0 x0)]=pq x0:=by kernel_rfl
theorem rB (x0:List MV):dg 109 [.cell (.func 0 x0)]=lK x0:=by kernel_rfl
theorem tW (x0:List MV):dg 110 [.cell (.func 0 x0)]=nN x0:=by kernel_rfl
theorem ua (x0:List MV):dg 111 [.cell (.func 0 x0)]=nO x0:=by kernel_rfl
theorem sf (x0:List MV):dg 112 [.cell (.func 0 x0)]=mL x0:=by kernel_rfl
theorem si (x0:List MV):dg 113 [.cell (.func 0 x0)]=mM x0:=by kernel_rfl
theorem ub (x0:List MV):dg 114 [.cell (.func 0 x0)]=nP x0:=by kernel_rfl
theorem sm (x0:List MV):dg 115 [.cell (.func 0 x0)]=mN x0:=by kernel_rfl
def vg (a a1:MV):Option MV:=gA a λcs=>
 mc cs λiU eV mS iV Seen=>
 gA a1 λja=>
 cL ja λClient Seq Kind Path Value Version Session Span=>
 bd (mI (.agg (fL iU eV mS iV Seen)) (.agg (bU Client Seq Kind Path Value Version Session Span))) λrA=>
 gT rA λvs=>
 gC vs λWg Dm=>
 gA Wg λyT=>
 iD yT λdN tC E fN cO Names=>
 gC Dm λIC mg=>
 gB IC λx=>
 gN mg<|
 bB x (
 some (.b8 [.agg (fL iU eV mS iV Seen),.agg (jq dN tC E fN cO Names),.list ([]:List MV)])) (
 bd (xW) λaY=>
 gL aY λx1=>
 idx x1 Kind λy=>
 gR y λx2=>
 OT x2 λfn cap=>
 gN cap<|
 bd (Kr [105,106,107,108,109,110,111,112,113,114,115] fn λk=>dg k [.cell (.func 0 (au iU eV mS iV Seen Client Seq Kind Path Value Version Session Span dN tC E fN cO Names ([]:List MV)))]) λda=>
 gW da λx3 ls=>
 aO ls λcM cf dY c9 iN cU nw gw eI dD bZ bK fY cN mJ xE dI cg dJ lA=>
 bd (ya (.agg [.list c9]) (.list lA)) λrO=>
 gT rO λmQ=>
 gC mQ λm41 Qq=>
 gA m41 λur=>
 gC ur λm42 Qr=>
 gL m42 λL=>
 gN Qr<|
 gC Qq λm43 IE=>
 gL m43 λx4=>
 gN IE<|
 bd (gy 6 72 [.list Seen]) λFL=>
 gF FL λxs=>
 bd (kb (.agg (fL iU eV mS iV Seen)) (.i .i64 Client)) λxH=>
 gT xH λuu=>
 Uy uu λx5 x6=>
 bd (
 bB x6 (
 idx xs x5 λy1=>
 gA y1 λcs4=>
 iD cs4 λUI apF E1 aaH IU Ce=>
 some (0,(au cM cf dY L (xs.set (sh x5) (.agg (jq cN mJ xE dI cg dJ))) cU nw gw eI dD bZ bK fY cN mJ xE dI cg dJ lA))) (
 bd (kz 72 [.fresh xs,.i .i64 x5,.fresh ([.agg (jq cN mJ xE dI cg dJ)]:List MV)]) λGj=>
 gF Gj λIF=>
 some (0,(au cM cf dY L IF cU nw gw eI dD bZ bK fY cN mJ xE dI cg dJ lA)))) λp=>
 cJ (AI p.1 0)<|
 cP .i64 .i64 .i64 .i64 .i64 .i64 .i64 .i64 .i64 .i64 .i64 p.2 λx7 x8 x9 Gk xs2 Ir Is It Iu GW Iv FM Iw Kq Rc UG x22 UH x24 xs3=>
 both (
 some (.b8 [.agg (fL x7 x8 x9 Gk xs2),.agg (jq Kq Rc UG x22 UH x24),.list x4])) (
 some (.b8 [.agg (fL x7 x8 x9 Gk xs2),.agg (jq Kq Rc UG x22 UH x24),.list x4])))
def FW:GT:=bp 18 (eE vg) Cl
theorem Gt:SG FW:=Gl Je [] [] 103 [] [21] [(2,[7])] [(3,[0,1,2,3,4]),(5,[1,2,5,0,3,4,6]),(6,[0,1,2,3,4,5,6,7,8,9,10,11,12,13,14,15]),(7,[0,1,2,3,4,5,6,7,8,9,10,11,12,13]),(10,[0,1,2,3,4,5,6,7,8,9,10,11]),(11,[0,1,2,3,4,5,6,7,8,9,10,11,12,13,14,15,16]),(12,[0,1,2,3,4,5,6,8,9,7,10,11,0,1,2,3,4,5,6,7,8,9,10,11,12,9,7])] [] [(10,⟨[4,5,11,12],[],[],[(0,[(26,.box [.k .l,.k (.i .i64),.k .l,.k .l,.own 52 57 false,.k (.i .i64),.k (.i .i64),.k (.i .i64),.k .s,.k .s,.k (.i .i64),.k (.i .i64),.k (.i .i64),.k (.i .i64),.k (.i .i64),.k (.i .i64),.k .s,.k (.i .i64),.k .l,.own 2000019 77 true]),(9,.pt 26 0)])],[89,90,2000019]⟩)] [] [105,106,107,108,109,110,111,112,113,114,115] Tryz.func18 (by kernel_rfl) (bo (λ_ _=>by kernel_rfl))
def A4:Option MV:=some (.agg [.list ([.agg (rP ([47]:List UInt8) ([]:List UInt8) 0 0)]:List MV)])
def Mr:GT:=bp 71 (Sp A4) FW
theorem KX:SG Mr:=nd Gt [] 4 [] [] [] Tryz.func71 (by kernel_rfl) (Dg (by kernel_rfl))
def A5:Option MV:=some (.agg [.i .i64 0,.list ([]:List MV)])
def Ms:GT:=bp 72 (Sp A5) Mr
theorem KY:SG Ms:=nd KX [] 2 [] [] [] Tryz.func72 (by kernel_rfl) (Dg (by kernel_rfl))
def wR:Option MV:=bd (A4) λrA=>
 gA rA λcs=>
 gC cs λm ir=>
 gL m λL=>
 gN ir<|
 bd (A5) λaY=>
 gA aY λja=>
 Uz ja λiT L1=>
 some (.agg (fL L iT L1 ([]:List MV) ([]:List MV)))
def Mt:GT:=bp 26 (Sp wR) Ms
theorem KZ:SG Mt:=nd KY [] 4 [] [] [] Tryz.func26 (by kernel_rfl) (Dg (by kernel_rfl))
def iH (s1 s2:MV):Option MV:=gL s1 λtG=>
 gL s2 λze=>
 bO tG λlen=>
 bO ze λeG=>
 bB (!decide ((len:Int)=(eG:Int))) (
 some (.b false)) (
 bO tG λjJ=>
 bd (Loop (λir=>
 gC ir λm gE=>
 gI .i64 m λx=>
 gN gE<|
 bB (decide (x<(jJ:Int))) (
 idx tG x λy=>
 gA y λcs=>
 qT cs λPath Value Version dw=>
 idx ze x λy1=>
 gA y1 λja=>
 qT ja λlC fN cO Cf=>
 bB (!((decide (Path=lC))&&((decide (Value=fN))&&((decide (Version=cO))&&(decide (dw=Cf)))))) (
 some (.inr (1,[.b false]))) (
 some (.inl [.i .i64 (bN .i64 (x+1))]))) (
 some (.inr (2,[])))) [.i .i64 0]) λp=>
 bB (AI p.1 2) (
 gN p.2<|
 some (.b true)) (
 cJ (AI p.1 1)<|
 gC p.2 λm9 tA=>
 gB m9 λx1=>
 gN tA<|
 some (.b x1)))
def pQ:GT:=bp 139 (eE iH) Mt
theorem uB:SG pQ:=Gl KZ [] [] 26 [] [] [] [(6,[0,1,2,3,4,5,6,7,8])] [] [] [(4,⟨[0,1,12],[],[(13,.sc (.k (.i .i64)))],[(1,[(4,.sc (.k .b))]),(2,[])],[]⟩)] [] Tryz.func139 (by kernel_rfl) (bo (λ_ _=>by kernel_rfl))
def yb (a b:MV):Option MV:=gA a λcs=>
 gC cs λm ir=>
 gL m λL=>
 gN ir<|
 gA b λja=>
 gC ja λm1 gE=>
 gL m1 λL1=>
 gN gE<|
 bd (iH (.list L) (.list L1)) λrA=>
 gB rA λx=>
 some (.b x)
def Jf:GT:=bp 76 (eE yb) pQ
theorem Jg:SG Jf:=nd uB [] 10 [] [] [] Tryz.func76 (by kernel_rfl) (bo (λ_ _=>by kernel_rfl))
def fw (s1 s2:MV):Option MV:=gL s1 λtG=>
 gL s2 λze=>
 bO tG λlen=>
 bO ze λeG=>
 bB (!decide ((len:Int)=(eG:Int))) (
 some (.b false)) (
 bO tG λjJ=>
 bd (Loop (λir=>
 gC ir λm gE=>
 gI .i64 m λx=>
 gN gE<|
 bB (decide (x<(jJ:Int))) (
 idx tG x λy=>
 gA y λcs=>
 Qi cs λId Span lz=>
 idx ze x λy1=>
 gA y1 λja=>
 Qi ja λId1 Af Og=>
 bB (!((decide (Id=Id1))&&((decide (Span=Af))&&(decide (lz=Og))))) (
 some (.inr (1,[.b false]))) (
 some (.inl [.i .i64 (bN .i64 (x+1))]))) (
 some (.inr (2,[])))) [.i .i64 0]) λp=>
 bB (AI p.1 2) (
 gN p.2<|
 some (.b true)) (
 cJ (AI p.1 1)<|
 gC p.2 λm7 vI=>
 gB m7 λx1=>
 gN vI<|
 some (.b x1)))
def nB:GT:=bp 140 (eE fw) Jf
theorem rC:SG nB:=Gl Jg [] [] 26 [] [] [] [(6,[0,1,2,3,4,5,6,7,8])] [] [] [(4,⟨[0,1,12],[],[(13,.sc (.k (.i .i64)))],[(1,[(4,.sc (.k .b))]),(2,[])],[]⟩)] [] Tryz.func140 (by kernel_rfl) (bo (λ_ _=>by kernel_rfl))
def yc (a b:MV):Option MV:=gA a λcs=>
 Uz cs λiT L=>
 gA b λja=>
 Uz ja λapG L1=>
 bd (
 bB (decide (iT=apG)) (
 bd (fw (.list L) (.list L1)) λrA=>
 gB rA λx=>
 some [.b x]) (
 some [.b false])) λvs=>
 gC vs λm4 tF=>
 gB m4 λx1=>
 gN tF<|
 some (.b x1)
def Jh:GT:=bp 77 (eE yc) nB
theorem Ji:SG Jh:=nd rC [] 17 [(1,⟨[2,3],[],[],[(0,[(4,.sc (.k .b))])],[]⟩)] [] [] Tryz.func77 (by kernel_rfl) (bo (λ_ _=>by kernel_rfl))
def gK (s1 s2:MV):Option MV:=gL s1 λtG=>
 gL s2 λze=>
 bO tG λlen=>
 bO ze λeG=>
 bB (!decide ((len:Int)=(eG:Int))) (
 some (.b false)) (
 bO tG λjJ=>
 bd (Loop (λir=>
 gC ir λm gE=>
 gI .i64 m λx=>
 gN gE<|
 bB (decide (x<(jJ:Int))) (
 idx tG x λy=>
 gA y λcs=>
 Qj cs λPath Client Kids=>
 idx ze x λy1=>
 gA y1 λja=>
 Qj ja λlC dN aaN=>
 bB (!((decide (Path=lC))&&((decide (Client=dN))&&(decide (Kids=aaN))))) (
 some (.inr (1,[.b false]))) (
 some (.inl [.i .i64 (bN .i64 (x+1))]))) (
 some (.inr (2,[])))) [.i .i64 0]) λp=>
 bB (AI p.1 2) (
 gN p.2<|
 some (.b true)) (
 cJ (AI p.1 1)<|
 gC p.2 λm7 vI=>
 gB m7 λx1=>
 gN vI<|
 some (.b x1)))
def pw:GT:=bp 141 (eE gK) Jh
theorem uc:SG pw:=Gl Ji [] [] 26 [] [] [] [(6,[0,1,2,3,4,5,6,7,8])] [] [] [(4,⟨[0,1,12],[],[(13,.sc (.k (.i .i64)))],[(1,[(4,.sc (.k .b))]),(2,[])],[]⟩)] [] Tryz.func141 (by kernel_rfl) (bo (λ_ _=>by kernel_rfl))
def yd (a b:MV):Option MV:=gA a λcs=>
 gC cs λm ir=>
 gL m λL=>
 gN ir<|
 gA b λja=>
 gC ja λm1 gE=>
 gL m1 λL1=>
 gN gE<|
 bd (gK (.list L) (.list L1)) λrA=>
 gB rA λx=>
 some (.b x)
def Jj:GT:=bp 78 (eE yd) pw
theorem Jk:SG Jj:=nd uc [] 10 [] [] [] Tryz.func78 (by kernel_rfl) (bo (λ_ _=>by kernel_rfl))
def ye (a b:MV):Option MV:=gA a λcs=>
 iD cs λClient Seq E Value Version Names=>
 gA b λja=>
 iD ja λdN tC E1 fN cO Ce=>
 bd (
 bB (decide (Client=dN)) (
 bB (decide (Seq=tC)) (
 bB (decide (E=E1)) (
 bB (decide (Value=fN)) (
 bB (decide (Version=cO)) (
 bd (iu (.list Names) (.list Ce)) λrA=>
 gB rA λx=>
 some [.b x]) (
 some [.b false])) (
 some [.b false])) (
 some [.b false])) (
 some [.b false])) (
 some [.b false])) λvs=>
 gC vs λm12 IQ=>
 gB m12 λx1=>
 gN IQ<|
 some (.b x1)
def Cm:GT:=bp 80 (eE ye) Jj
theorem Jl:SG Cm:=nd Jk [] 45 [(1,⟨[2,3],[],[],[(0,[(4,.sc (.k .b))])],[]⟩)] [] [] Tryz.func80 (by kernel_rfl) (bo (λ_ _=>by kernel_rfl))
def cv:GT:=Cm
theorem fA (x0 x1:MV):cv 80 [x0,x1]=ye x0 x1:=by kernel_rfl
def bQ (s1 s2 eq:MV):Option MV:=gL s1 λtG=>
 gL s2 λze=>
 gR eq λeq1=>
 bO tG λlen=>
 bO ze λeG=>
 bB (!decide ((len:Int)=(eG:Int))) (
 some (.b false)) (
 bO tG λjJ=>
 bd (Loop (λir=>
 gC ir λm gE=>
 gI .i64 m λx=>
 gN gE<|
 bB (decide (x<(jJ:Int))) (
 idx tG x λy=>
 gA y λcs=>
 iD cs λClient Seq E Value Version Names=>
 idx ze x λy1=>
 gA y1 λja=>
 iD ja λdN tC E1 fN cO Ce=>
 OT eq1 λfn cap=>
 cJ (!gv fn)<|
 bd (cv fn ([.agg (jq Client Seq E Value Version Names),.agg (jq dN tC E1 fN cO Ce)]++cap)) λrA=>
 gB rA λx1=>
 bB (!x1) (
 some (.inr (1,[.b false]))) (
 some (.inl [.i .i64 (bN .i64 (x+1))]))) (
 some (.inr (2,[])))) [.i .i64 0]) λp=>
 bB (AI p.1 2) (
 gN p.2<|
 some (.b true)) (
 cJ (AI p.1 1)<|
 gC p.2 λWg I3=>
 gB Wg λx2=>
 gN I3<|
 some (.b x2)))
def dO:GT:=bp 79 (KP bQ) Cm
theorem gX:SG dO:=nd Jl [] 32 [] [] [(4,⟨[1,2,15,16],[],[(17,.sc (.k (.i .i64)))],[(1,[(6,.sc (.k .b))]),(2,[])],[]⟩)] Tryz.func79 (by kernel_rfl) (uW (λ_ _ _=>by kernel_rfl))
def yf (a b:MV):Option MV:=gA a λcs=>
 mc cs λiU eV mS iV Seen=>
 gA b λja=>
 mc ja λpz nC vS qD BL=>
 bd (
 bd (yb (.agg [.list iU]) (.agg [.list pz])) λrA=>
 gB rA λx=>
 bB x (
 bd (yc (.agg [.i .i64 eV,.list mS]) (.agg [.i .i64 nC,.list vS])) λaY=>
 gB aY λx1=>
 bB x1 (
 bd (yd (.agg [.list iV]) (.agg [.list qD])) λda=>
 gB da λx2=>
 bB x2 (
 bd (bQ (.list Seen) (.list BL) (.func 80 [])) λrO=>
 gB rO λx3=>
 some [.b x3]) (
 some [.b false])) (
 some [.b false])) (
 some [.b false])) λvs=>
 gC vs λWf tA=>
 gB Wf λx4=>
 gN tA<|
 some (.b x4)
def Jm:GT:=bp 34 (eE yf) dO
theorem Jn:SG Jm:=nd gX [] 31 [(1,⟨[2,3],[],[],[(0,[(4,.sc (.k .b))])],[]⟩)] [] [] Tryz.func34 (by kernel_rfl) (bo (λ_ _=>by kernel_rfl))
def ud (rA lA:MV):Option MV:=gA rA λcs=>
 mc cs λiU eV mS iV Seen=>
 gL lA λCh=>
 bO Ch λlen=>
 bd (Loop (λxN=>
 gC xN λm5 ED=>
 gL m5 λaY=>
 gC ED λm6 Al=>
 gI .i64 m6 λda=>
 gC Al λm7 vI=>
 gL m7 λrO=>
 gC vI λm8 Iy=>
 gL m8 λFL=>
 gC Iy λm9 tA=>
 gL m9 λxH=>
 gC tA λWf Ad=>
 gL Wf λout=>
 Ix Ad λevents x=>
 bB (decide (x<(len:Int))) (
 idx Ch x λy=>
 gA y λja=>
 cL ja λClient Seq Kind Path Value Version Session Span=>
 bd (vg (.agg (fL aY da rO FL xH)) (.agg (bU Client Seq Kind Path Value Version Session Span))) λGj=>
 gT Gj λvs=>
 gC vs λWs wJ=>
 gA Ws λyT=>
 mc yT λpz nC vS qD BL=>
 gC wJ λm27 Qp=>
 gA m27 λur=>
 iD ur λdN tC E fN cO Names=>
 gC Qp λm34 alJ=>
 gL m34 λx1=>
 gN alJ<|
 bO out λeG=>
 bO ([.agg (jq dN tC E fN cO Names)]:List MV) λjJ=>
 cJ (decide ((eG+jJ) *72<=2^46))<|
 cJ (pS 5 x1)<|
 bO events λvM=>
 bO x1 λCk=>
 cJ (decide ((vM+Ck) *56<=2^46))<|
 some (.inl [.list pz,.i .i64 nC,.list vS,.list qD,.list BL,.list (out++([.agg (jq dN tC E fN cO Names)]:List MV)),.list (events++x1),.i .i64 (bN .i64 (x+1))])) (
 some (.inr (2,[.list aY,.i .i64 da,.list rO,.list FL,.list xH,.list out,.list events])))) [.list iU,.i .i64 eV,.list mS,.list iV,.list Seen,.list ([]:List MV),.list ([]:List MV),.i .i64 0]) λp=>
 cJ (AI p.1 2)<|
 gC p.2 λm35 aaA=>
 gL m35 λrA7=>
 gC aaA λm36 aaB=>
 gI .i64 m36 λrA8=>
 gC aaB λm37 aaC=>
 gL m37 λrA9=>
 gC aaC λm38 aaD=>
 gL m38 λxJ=>
 gC aaD λm39 aaE=>
 gL m39 λQh=>
 gC aaE λm40 Qq=>
 gL m40 λDs=>
 gC Qq λm41 Qr=>
 gL m41 λaef=>
 gN Qr<|
 some (.b8 [.agg (fL rA7 rA8 rA9 xJ Qh),.list Ds,.list aef])
def Jo:GT:=bp 28 (eE ud) Jm
theorem Jp:SG Jo:=Gl Jn [] [] 39 [29] [] [] [] [] [] [(4,⟨[4,14,15],[],[(2,.box [.k .l,.k (.i .i64),.k .l,.k .l,.k .l]),(7,.sc (.own 30 57 true)),(8,.sc (.own 33 79 true)),(16,.sc (.k (.i .i64)))],[(2,[(2,.box [.k .l,.k (.i .i64),.k .l,.k .l,.k .l]),(7,.sc (.own 30 57 true)),(8,.sc (.own 33 79 true))])],[30,33]⟩)] [] Tryz.func28 (by kernel_rfl) (bo (λ_ _=>by kernel_rfl))
def wS (lA:MV):Option MV:=gL lA λCh=>
 bd (Loop (λir=>
 gC ir λm gE=>
 gI .i64 m λi=>
 gN gE<|
 bO Ch λlen=>
 bB (decide (i<(len:Int))) (
 bd (
 bB (decide (i=30)) (
 some [.b true]) (
 idx Ch i λy=>
 gA y λcs=>
 cL cs λClient Seq Kind Path Value Version Session Span=>
 bB (decide ((200:Int)<(Path.length:Int))) (
 some [.b true]) (
 idx Ch i λy1=>
 gA y1 λja=>
 cL ja λdN tC Qk lC fN cO Ae Af=>
 some [.b (decide ((1100:Int)<(fN.length:Int)))]))) λvs=>
 gC vs λm17 aaO=>
 gB m17 λx=>
 gN aaO<|
 bB x (
 some (.inr (1,[.b false]))) (
 some (.inl [.i .i64 (bN .i64 (i+1))]))) (
 some (.inr (2,[])))) [.i .i64 0]) λp=>
 bB (AI p.1 2) (
 gN p.2<|
 some (.b true)) (
 cJ (AI p.1 1)<|
 gC p.2 λm18 alK=>
 gB m18 λx1=>
 gN alK<|
 some (.b x1))
def Mu:GT:=bp 39 (sZ wS) Jo
theorem K0:SG Mu:=nd Jp [] 30 [(4,⟨[0,3],[],[],[(0,[(29,.sc (.k .b))])],[]⟩)] [] [(2,⟨[0],[],[(3,.sc (.k (.i .i64)))],[(1,[(2,.sc (.k .b))]),(2,[])],[]⟩)] Tryz.func39 (by kernel_rfl) (fp (λ_=>by kernel_rfl))
def yg (x:MV):Option MV:=gI .u64 x λx1=>
 bd (
 bB (decide ((4294967296:Int)<=x1)) (
 cJ (decide ((0:Int)<=32))<|
 some (0,[.i .u64 (IT x1 (2^min (sh 32) (AS .u64))),.i .i64 32])) (
 some (0,[.i .u64 x1,.i .i64 0]))) λp=>
 cJ (AI p.1 0)<|
 We .u64 .i64 p.2 λx2 n=>
 bd (
 bB (decide ((65536:Int)<=x2)) (
 cJ (decide ((0:Int)<=16))<|
 some (0,[.i .u64 (IT x2 (2^min (sh 16) (AS .u64))),.i .i64 (bN .i64 (n+16))])) (
 some (0,[.i .u64 x2,.i .i64 n]))) λp1=>
 cJ (AI p1.1 0)<|
 We .u64 .i64 p1.2 λx3 n1=>
 bd (
 bB (decide ((256:Int)<=x3)) (
 cJ (decide ((0:Int)<=8))<|
 some (0,[.i .u64 (IT x3 (2^min (sh 8) (AS .u64))),.i .i64 (bN .i64 (n1+8))])) (
 some (0,[.i .u64 x3,.i .i64 n1]))) λp2=>
 cJ (AI p2.1 0)<|
 We .u64 .i64 p2.2 λx4 n2=>
 cJ (decide ((0:Int)<=(bN .u8 x4)/\(bN .u8 x4)<(((([0,1,2,2,3,3,3,3,4,4,4,4,4,4,4,4,5,5,5,5,5,5,5,5,5,5,5,5,5,5,5,5,6,6,6,6,6,6,6,6,6,6,6,6,6,6,6,6,6,6,6,6,6,6,6,6,6,6,6,6,6,6,6,6]:List UInt8)++([7,7,7,7,7,7,7,7,7,7,7,7,7,7,7,7,7,7,7,7,7,7,7,7,7,7,7,7,7,7,7,7,7,7,7,7,7,7,7,7,7,7,7,7,7,7,7,7,7,7,7,7,7,7,7,7,7,7,7,7,7,7,7,7]:List UInt8))++(([8,8,8,8,8,8,8,8,8,8,8,8,8,8,8,8,8,8,8,8,8,8,8,8,8,8,8,8,8,8,8,8,8,8,8,8,8,8,8,8,8,8,8,8,8,8,8,8,8,8,8,8,8,8,8,8,8,8,8,8,8,8,8,8]:List UInt8)++([8,8,8,8,8,8,8,8,8,8,8,8,8,8,8,8,8,8,8,8,8,8,8,8,8,8,8,8,8,8,8,8,8,8,8,8,8,8,8,8,8,8,8,8,8,8,8,8,8,8,8,8,8,8,8,8,8,8,8,8,8,8,8,8]:List UInt8))).length:Int)))<|
 some (.i .i64 (bN .i64 (n2+(bN .i64 ((((([0,1,2,2,3,3,3,3,4,4,4,4,4,4,4,4,5,5,5,5,5,5,5,5,5,5,5,5,5,5,5,5,6,6,6,6,6,6,6,6,6,6,6,6,6,6,6,6,6,6,6,6,6,6,6,6,6,6,6,6,6,6,6,6]:List UInt8)++([7,7,7,7,7,7,7,7,7,7,7,7,7,7,7,7,7,7,7,7,7,7,7,7,7,7,7,7,7,7,7,7,7,7,7,7,7,7,7,7,7,7,7,7,7,7,7,7,7,7,7,7,7,7,7,7,7,7,7,7,7,7,7,7]:List UInt8))++(([8,8,8,8,8,8,8,8,8,8,8,8,8,8,8,8,8,8,8,8,8,8,8,8,8,8,8,8,8,8,8,8,8,8,8,8,8,8,8,8,8,8,8,8,8,8,8,8,8,8,8,8,8,8,8,8,8,8,8,8,8,8,8,8]:List UInt8)++([8,8,8,8,8,8,8,8,8,8,8,8,8,8,8,8,8,8,8,8,8,8,8,8,8,8,8,8,8,8,8,8,8,8,8,8,8,8,8,8,8,8,8,8,8,8,8,8,8,8,8,8,8,8,8,8,8,8,8,8,8,8,8,8]:List UInt8))).getD (sh (bN .u8 x4)) 0).toNat:Int)))))
def Jq:GT:=bp 203 (sZ yg) Mu
theorem Jr:SG Jq:=nd K0 [] 25 [] [(8,⟨[],[],[],[(0,[(0,.sc (.k (.i .u64))),(2,.sc (.k (.i .i64)))])],[]⟩),(5,⟨[],[],[],[(0,[(0,.sc (.k (.i .u64))),(2,.sc (.k (.i .i64)))])],[]⟩),(2,⟨[],[],[],[(0,[(0,.sc (.k (.i .u64))),(2,.sc (.k (.i .i64)))])],[]⟩)] [] Tryz.func203 (by kernel_rfl) (fp (λ_=>by kernel_rfl))
def yh (n:MV):Option MV:=gI .u64 n λn1=>
 bd (yg (.i .u64 n1)) λrA=>
 gI .i64 rA λx=>
 cJ (!decide ((8:Int)=0))<|
 some (.i .i64 (bN .i64 (1+(bN .i64 (Int.tdiv (bN .i64 (x+7)) 8)))))
def Js:GT:=bp 147 (sZ yh) Jq
theorem Jt:SG Js:=nd Jr [] 8 [] [] [] Tryz.func147 (by kernel_rfl) (fp (λ_=>by kernel_rfl))
def nQ (sA:MV):Option MV:=gL sA λni=>
 bO ni λlen=>
 bO ni λeG=>
 cJ (decide ((len:Int)=(ni.length:Int)/\(eG:Int)=(ni.length:Int)))<|
 some (.clip ni)
def yJ:GT:=bp 148 (sZ nQ) Js
theorem Bu:SG yJ:=nd Jt [] 9 [] [] [] Tryz.func148 (by kernel_rfl) (fp (λ_=>by kernel_rfl))
def sF (b n:MV):Option MV:=gL b λb1=>
 gI .u64 n λn1=>
 bd (yh (.i .u64 n1)) λrA=>
 gI .i64 rA λx=>
 bd (nQ (.list b1)) λaY=>
 gCl aY λxs=>
 cJ (pS 1 xs)<|
 bO xs λlen=>
 bO ([.i .u8 (bN .u8 (bN .i64 (x-1)))]:List MV) λeG=>
 cJ (decide (0<eG/\(len+eG) *1<=2^46))<|
 bd (Loop (λir=>
 Ix ir λout i=>
 bB (decide ((0:Int)<=i)) (
 cJ (decide ((0:Int)<=(bN .i64 (8 *i))))<|
 bO out λjJ=>
 bO ([.i .u8 (bN .u8 (IT n1 (2^min (sh (bN .i64 (8 *i))) (AS .u64))))]:List MV) λvM=>
 cJ (decide ((jJ+vM) *1<=2^46))<|
 some (.inl [.list (out++([.i .u8 (bN .u8 (IT n1 (2^min (sh (bN .i64 (8 *i))) (AS .u64))))]:List MV)),.i .i64 (bN .i64 (i-1))])) (
 some (.inr (2,[.list out])))) [.list (xs++([.i .u8 (bN .u8 (bN .i64 (x-1)))]:List MV)),.i .i64 (bN .i64 ((bN .i64 (x-1))-1))]) λp=>
 cJ (AI p.1 2)<|
 gC p.2 λm2 vL=>
 gL m2 λDs=>
 gN vL<|
 some (.fresh Ds)
def Mv:GT:=bp 86 (eE sF) yJ
theorem K1:SG Mv:=fnF Bu 5 [] [] 32 [15,29] [] [] [] [] [] [(4,⟨[1],[],[(6,.sc (.own 16 5 false)),(7,.sc (.k (.i .i64)))],[(2,[(6,.sc (.own 16 5 false))])],[]⟩)] [] Tryz.func86 (by kernel_rfl) (by kernel_rfl) (bo (λ_ _=>by kernel_rfl))
def ue (b sA:MV):Option MV:=gL b λb1=>
 gS sA λni=>
 bd (sF (.list b1) (.i .u64 (bN .u64 (ni.length:Int)))) λrA=>
 gF rA λxs=>
 bO xs λlen=>
 bO (CG ni) λeG=>
 cJ (decide ((len+eG) *1<=2^46))<|
 some (.fresh (xs++(CG ni)))
def Ju:GT:=bp 149 (eE ue) Mv
theorem Jv:SG Ju:=fnF K1 5 [] [] 12 [] [] [] [] [] [] [] [] Tryz.func149 (by kernel_rfl) (by kernel_rfl) (bo (λ_ _=>by kernel_rfl))
def A6 (b n:MV):Option MV:=gL b λb1=>
 gI .i64 n λn1=>
 cJ (decide ((0:Int)<=1))<|
 cJ (decide ((0:Int)<=63))<|
 bd (sF (.list b1) (.i .u64 (D8 .u64 (bN .u64 ((bN .u64 n1) *2^min (sh 1) (AS .u64))) (bN .u64 (IT n1 (2^min (sh 63) (AS .i64))))))) λrA=>
 gF rA λxs=>
 some (.fresh xs)
def Mw:GT:=bp 204 (eE A6) Ju
theorem K3:SG Mw:=fnF Jv 5 [] [] 14 [] [] [] [] [] [] [] [] Tryz.func204 (by kernel_rfl) (by kernel_rfl) (bo (λ_ _=>by kernel_rfl))
def yi (b lA:MV):Option MV:=gL b λb1=>
 gL lA λCh=>
 bO Ch λlen=>
 bd (Loop (λir=>
 Ix ir λb2 x=>
 bB (decide (x<(len:Int))) (
 idx Ch x λy=>
 gI .i64 y λx1=>
 bd (A6 (.list b2) (.i .i64 x1)) λrA=>
 gF rA λxs=>
 some (.inl [.list xs,.i .i64 (bN .i64 (x+1))])) (
 some (.inr (2,[.list b2])))) [.list b1,.i .i64 0]) λp=>
 cJ (AI p.1 2)<|
 gC p.2 λm2 vL=>
 gL m2 λb3=>
 gN vL<|
 some (.list b3)
def Jw:GT:=bp 150 (eE yi) Mw
theorem Jx:SG Jw:=Gl K3 [] [] 18 [15] [] [] [] [] [] [(2,⟨[7,8],[],[(0,.sc (.k .l)),(9,.sc (.k (.i .i64)))],[(2,[(0,.sc (.k .l))])],[]⟩)] [] Tryz.func150 (by kernel_rfl) (bo (λ_ _=>by kernel_rfl))
def A7 (b o:MV):Option MV:=gL b λb1=>
 gA o λcs=>
 cL cs λClient Seq Kind Path Value Version Session Span=>
 bd (yi (.list b1) (.list ([.i .i64 Client,.i .i64 Seq,.i .i64 Kind,.i .i64 Version,.i .i64 Session,.i .i64 Span]:List MV))) λrA=>
 gL rA λx=>
 bd (ue (.list x) (.s Path)) λaY=>
 gF aY λxs=>
 bd (ue (.list xs) (.s Value)) λda=>
 gF da λIF=>
 some (.fresh IF)
def Mx:GT:=bp 87 (eE A7) Jw
theorem K4:SG Mx:=fnF Jx 5 [] [] 26 [18] [] [] [(1,[0,1,2,3,4,5,6,7,8,9,10,11,12,15,16,18,19,13,14,17,20,21])] [] [] [] [] Tryz.func87 (by kernel_rfl) (by kernel_rfl) (bo (λ_ _=>by kernel_rfl))
def pA (lA:MV):Option MV:=gL lA λCh=>
 bO Ch λlen=>
 bB (decide ((10:Int)<(len:Int))) (
 some (.b8 [.s ([]:List UInt8),.i .i64 5])) (
 bO Ch λeG=>
 bd (sF (.list ([]:List MV)) (.i .u64 (bN .u64 (eG:Int)))) λrA=>
 gF rA λxs=>
 bO Ch λjJ=>
 bd (Loop (λir=>
 Ix ir λb x=>
 bB (decide (x<(jJ:Int))) (
 idx Ch x λy=>
 gA y λcs=>
 cL cs λClient Seq Kind Path Value Version Session Span=>
 bd (mH (.agg (bU Client Seq Kind Path Value Version Session Span))) λaY=>
 gB aY λx1=>
 bB (!x1) (
 some (.inr (1,[.s ([]:List UInt8),.i .i64 1]))) (
 bd (A7 (.list b) (.agg (bU Client Seq Kind Path Value Version Session Span))) λda=>
 gF da λIF=>
 some (.inl [.list IF,.i .i64 (bN .i64 (x+1))]))) (
 some (.inr (2,[.list b])))) [.list xs,.i .i64 0]) λp=>
 bB (AI p.1 2) (
 gC p.2 λWf Ad=>
 gL Wf λb1=>
 gN Ad<|
 Kx b1 λbs=>
 some (.b8 [.s bs,.i .i64 0])) (
 cJ (AI p.1 1)<|
 gC p.2 λm11 IQ=>
 gS m11 λx2=>
 gC IQ λm12 Dm=>
 gI .i64 m12 λx3=>
 gN Dm<|
 some (.b8 [.s x2,.i .i64 x3])))
def Dv:GT:=bp 41 (sZ pA) Mx
theorem EI:SG Dv:=nd K4 [] 29 [] [] [(5,⟨[14,15],[],[(4,.sc (.own 13 5 true)),(16,.sc (.k (.i .i64)))],[(1,[(2,.sc (.k .s)),(3,.sc (.k (.i .i64)))]),(2,[(4,.sc (.own 13 5 true))])],[13,25]⟩)] Tryz.func41 (by kernel_rfl) (fp (λ_=>by kernel_rfl))
def qh (b:MV):Option MV:=gL b λb1=>
 bO b1 λlen=>
 bB (decide ((len:Int)=0)) (
 some (.b8 [.i .u64 0,.list ([]:List MV),.i .i64 2])) (
 idx b1 0 λy=>
 gI .u8 y λx=>
 cJ (pS 1 b1)<|
 bO b1 λeG=>
 cJ (decide ((0:Int)<=1/\(1:Int)<=(eG:Int)/\(eG:Int)<=(eG:Int)))<|
 bd (
 bB (decide ((8:Int)<(bN .i64 x))) (
 some [.b true]) (
 bB (decide ((0:Int)<(bN .i64 x))) (
 bO (By (sh 1) (BY (sh (eG:Int)) b1)) λjJ=>
 bB (decide ((0:Int)<(jJ:Int))) (
 idx (By (sh 1) (BY (sh (eG:Int)) b1)) 0 λy1=>
 gI .u8 y1 λx1=>
 some [.b (decide (x1=0))]) (
 some [.b false])) (
 some [.b false]))) λvs=>
 gC vs λm ir=>
 gB m λx2=>
 gN ir<|
 bB x2 (
 some (.b8 [.i .u64 0,.list ([]:List MV),.i .i64 3])) (
 bO (By (sh 1) (BY (sh (eG:Int)) b1)) λvM=>
 bB (decide ((vM:Int)<(bN .i64 x))) (
 some (.b8 [.i .u64 0,.list ([]:List MV),.i .i64 2])) (
 bO (By (sh 1) (BY (sh (eG:Int)) b1)) λCk=>
 cJ (decide ((0:Int)<=0/\(0:Int)<=(bN .i64 x)/\(bN .i64 x)<=(Ck:Int)))<|
 bO (By (sh 0) (BY (sh (bN .i64 x)) (By (sh 1) (BY (sh (eG:Int)) b1)))) λaaK=>
 bd (Loop (λgE=>
 We .u64 .i64 gE λn x3=>
 bB (decide (x3<(aaK:Int))) (
 idx (By (sh 0) (BY (sh (bN .i64 x)) (By (sh 1) (BY (sh (eG:Int)) b1)))) x3 λy2=>
 gI .u8 y2 λx4=>
 cJ (decide ((0:Int)<=8))<|
 some (.inl [.i .u64 (bOr .u64 (bN .u64 (n *2^min (sh 8) (AS .u64))) (bN .u64 x4)),.i .i64 (bN .i64 (x3+1))])) (
 some (.inr (3,[.i .u64 n])))) [.i .u64 0,.i .i64 0]) λp=>
 cJ (AI p.1 3)<|
 gC p.2 λm3 tF=>
 gI .u64 m3 λn1=>
 gN tF<|
 cJ (pS 1 (By (sh 1) (BY (sh (eG:Int)) b1)))<|
 bO (By (sh 1) (BY (sh (eG:Int)) b1)) λQs=>
 cJ (decide ((0:Int)<=(bN .i64 x)/\(bN .i64 x)<=(Qs:Int)/\(Qs:Int)<=(Qs:Int)))<|
 some (.b8 [.i .u64 n1,.list (By (sh (bN .i64 x)) (BY (sh (Qs:Int)) (By (sh 1) (BY (sh (eG:Int)) b1)))),.i .i64 0]))))
def Jy:GT:=bp 88 (sZ qh) Dv
theorem Jz:SG Jy:=Gl EI [] [] 60 [] [] [] [(3,[0,1,2,3,4,5,6,7]),(14,[0,1,2,3,4,5,6])] [(4,⟨[5,6],[],[],[(0,[(19,.sc (.k .b))])],[]⟩)] [] [(10,⟨[5,6,44,45],[],[(7,.sc (.k (.i .u64))),(46,.sc (.k (.i .i64)))],[(3,[(7,.sc (.k (.i .u64)))])],[]⟩)] [] Tryz.func88 (by kernel_rfl) (fp (λ_=>by kernel_rfl))
def qE (b:MV):Option MV:=gL b λb1=>
 bd (qh (.list b1)) λrA=>
 gT rA λvs=>
 gC vs λm ir=>
 gI .u64 m λx=>
 Ix ir λx1 x2=>
 cJ (decide ((0:Int)<=1))<|
 some (.b8 [.i .i64 (D8 .i64 (bN .i64 (IT x (2^min (sh 1) (AS .u64)))) (bN .i64 (0-(bN .i64 (M6 .u64 x 1))))),.list x1,.i .i64 x2])
def BM:GT:=bp 205 (sZ qE) Jy
theorem Dw:SG BM:=nd Jz [] 24 [] [] [] Tryz.func205 (by kernel_rfl) (fp (λ_=>by kernel_rfl))
def pB (b most:MV):Option MV:=gL b λb1=>
 gI .i64 most λalL=>
 bd (qh (.list b1)) λrA=>
 gT rA λvs=>
 gC vs λm ir=>
 gI .u64 m λx=>
 Ix ir λx1 x2=>
 bB (!decide (x2=0)) (
 some (.b8 [.s ([]:List UInt8),.list ([]:List MV),.i .i64 x2])) (
 bB (decide ((bN .u64 (imax alL 0))<x)) (
 some (.b8 [.s ([]:List UInt8),.list ([]:List MV),.i .i64 5])) (
 bO x1 λlen=>
 bB (decide ((bN .u64 (len:Int))<x)) (
 some (.b8 [.s ([]:List UInt8),.list ([]:List MV),.i .i64 2])) (
 bO x1 λeG=>
 cJ (decide ((0:Int)<=0/\(0:Int)<=x/\x<=(eG:Int)))<|
 Kx (By (sh 0) (BY (sh x) x1)) λbs=>
 cJ (pS 1 x1)<|
 bO x1 λjJ=>
 cJ (decide ((0:Int)<=x/\x<=(jJ:Int)/\(jJ:Int)<=(jJ:Int)))<|
 some (.b8 [.s bs,.list (By (sh x) (BY (sh (jJ:Int)) x1)),.i .i64 0]))))
def cn:GT:=bp 206 (eE pB) BM
theorem uf:SG cn:=Gl Dw [] [] 39 [] [] [] [(8,[0,1,2,3,4,5,6,7,8,9])] [] [] [] [] Tryz.func206 (by kernel_rfl) (bo (λ_ _=>by kernel_rfl))
def takeN:XJ:=⟨35,152,54,229,227,291,231,233,3,9,4⟩
def yK:TkF:=⟨205,206,35⟩
def aaP:Ctx:=UE cn [] 47 [] [36,42,46] [] [] [] [] [] []
theorem ahJ:Aa Tryz.prog aaP cn yK takeN 89 151 152 Tryz.f89 (λk=>k) (iR Tryz.f89 iS) where
 hT:=n7
 key:=λ_=>rfl
 snd:=λf ms r h=>gh.oQ (c:=cx) (c':=aaP) ⟨rfl,rfl,rfl,rfl,rfl,rfl,rfl,rfl,rfl⟩ (uf.all f ms r h)
 gv:=⟨by kernel_rfl,by kernel_rfl,by kernel_rfl⟩
 tyO:=⟨iq 35,by kernel_rfl,by kernel_rfl,by kernel_rfl,by kernel_rfl⟩
 tyR:=⟨iq 229,by kernel_rfl,by kernel_rfl,by kernel_rfl,by kernel_rfl⟩
 tyY:=⟨iq 152,by kernel_rfl,by kernel_rfl,by kernel_rfl⟩
 tye:=⟨iq 54,by kernel_rfl,by kernel_rfl,by kernel_rfl⟩
 tyi:=⟨iq 3,by kernel_rfl,by kernel_rfl,by kernel_rfl⟩
 tyS:=⟨iq 9,by kernel_rfl,by kernel_rfl,by kernel_rfl⟩
 tyI:=⟨iq 231,by kernel_rfl,by kernel_rfl,by kernel_rfl⟩
 adz:=by kernel_rfl
 pos:=Tryz.func89
 name:=by kernel_rfl
 tmps:=by kernel_rfl
 res:=by kernel_rfl
 body:=by kernel_rfl
 ops:=by constructor<;>exact ⟨by kernel_rfl,by kernel_rfl,by kernel_rfl⟩
 ints:=⟨Tryz.f151,λk=>k,iR Tryz.f151 iS,⟨Tryz.func151,by kernel_rfl,by kernel_rfl,by kernel_rfl,by kernel_rfl,by constructor<;>exact ⟨by kernel_rfl,by kernel_rfl,by kernel_rfl⟩⟩⟩
 text:=⟨Tryz.f152,λk=>k,iR Tryz.f152 iS,⟨Tryz.func152,by kernel_rfl,by kernel_rfl,by kernel_rfl,by kernel_rfl,by constructor<;>exact ⟨by kernel_rfl,by kernel_rfl,by kernel_rfl⟩⟩⟩
 mix:=vH
 d7:=by kernel_rfl
 d10:=by kernel_rfl
 s35:=by kernel_rfl
 s47:=by kernel_rfl
 s51:=by kernel_rfl
 m38:=by kernel_rfl
 m53:=by kernel_rfl
 gvF:=by kernel_rfl
 tyL:=⟨iq 291,by kernel_rfl,by kernel_rfl⟩
 blR:=λ_ _ _=>by kernel_rfl
 blO:=by kernel_rfl
def Cn (a:MV):Option MV:=Ut cn yK [a]
def JA:GT:=bp 89 (sZ Cn) cn
theorem JB:SG JA:=uf.add λf ms r hk hr=>by have hk:f=89:=hk;subst hk;exact gh.oQ (c:=aaP) (c':=cx) ⟨rfl,rfl,rfl,rfl,rfl,rfl,rfl,rfl,rfl⟩ (adH ahJ (fp (B:=Ut cn yK) (λ_=>rfl) hr))
def pC (sA:MV):Option MV:=gS sA λni=>
 bd (qh (.list (CG ni))) λrA=>
 gT rA λvs=>
 gC vs λm ir=>
 gI .u64 m λx=>
 Ix ir λx1 x2=>
 bd (
 bB (!decide (x2=0)) (
 some [.b true]) (
 some [.b (decide ((10:Int)<x))])) λmQ=>
 gC mQ λm3 vL=>
 gB m3 λx3=>
 gN vL<|
 bB x3 (
 some (.b8 [.list ([]:List MV),.i .i64 3])) (
 cJ (decide ((0:Int)<=x/\x=x/\x *80<=2^46))<|
 bO (aaG (sh x) (.agg (bU 0 0 0 ([]:List UInt8) ([]:List UInt8) 0 0 0))) λlen=>
 bd (Loop (λtF=>
 gC tF λm4 xN=>
 gL m4 λb=>
 Ix xN λout x4=>
 bB (decide (x4<(len:Int))) (
 bd (Cn (.list b)) λaY=>
 gT aY λuu=>
 gC uu λm7 vI=>
 gA m7 λcs=>
 cL cs λClient Seq Kind Path Value Version Session Span=>
 Ix vI λx5 x6=>
 idx out x4 λy=>
 gA y λja=>
 cL ja λdN tC Qk lC fN cO Ae Af=>
 bB (!decide (x6=0)) (
 some (.inr (1,[.list ([]:List MV),.i .i64 3]))) (
 some (.inl [.list x5,.list (out.set (sh x4) (.agg (bU Client Seq Kind Path Value Version Session Span))),.i .i64 (bN .i64 (x4+1))]))) (
 some (.inr (2,[.list b,.list out])))) [.list x1,.list (aaG (sh x) (.agg (bU 0 0 0 ([]:List UInt8) ([]:List UInt8) 0 0 0))),.i .i64 0]) λp=>
 bB (AI p.1 2) (
 gC p.2 λm26 aaz=>
 gL m26 λb1=>
 gC aaz λm27 Qp=>
 gL m27 λDs=>
 gN Qp<|
 bO b1 λeG=>
 bB (decide ((0:Int)<(eG:Int))) (
 some (.b8 [.list ([]:List MV),.i .i64 3])) (
 some (.b8 [.list Ds,.i .i64 0]))) (
 cJ (AI p.1 1)<|
 oLI .i64 p.2 λx7 x8=>
 some (.b8 [.list x7,.i .i64 x8])))
def Dx:GT:=bp 42 (sZ pC) JA
theorem EJ:SG Dx:=nd JB [] 45 [(2,⟨[4,5,6],[],[],[(0,[(21,.sc (.k .b))])],[]⟩)] [] [(6,⟨[25],[],[(5,.sc (.k .l)),(7,.sc (.own 23 35 false)),(26,.sc (.k (.i .i64)))],[(1,[(2,.sc (.k .l)),(3,.sc (.k (.i .i64)))]),(2,[(5,.sc (.k .l)),(7,.sc (.own 23 35 false))])],[]⟩)] Tryz.func42 (by kernel_rfl) (fp (λ_=>by kernel_rfl))
def oJ (rA sA:MV):Option MV:=gA rA λcs=>
 mc cs λiU eV mS iV Seen=>
 gS sA λni=>
 bd (pC (.s ni)) λaY=>
 gT aY λvs=>
 Ix vs λx x1=>
 bB (!decide (x1=0)) (
 some (.b8 [.agg (fL iU eV mS iV Seen),.list ([]:List MV),.i .i64 x1])) (
 bd (ud (.agg (fL iU eV mS iV Seen)) (.list x)) λda=>
 gT da λmQ=>
 gC mQ λm7 Al=>
 gA m7 λja=>
 mc ja λpz nC vS qD BL=>
 gC Al λWg Dm=>
 gL Wg λx2=>
 gC Dm λm14 I3=>
 gL m14 λx3=>
 gN I3<|
 some (.b8 [.agg (fL pz nC vS qD BL),.list x2,.i .i64 0]))
def FX:GT:=bp 46 (eE oJ) Dx
theorem Gu:SG FX:=nd EJ [] 30 [] [] [] Tryz.func46 (by kernel_rfl) (bo (λ_ _=>by kernel_rfl))
def wT:Option MV:=bd (pA (.list ([.agg (bU 1 1 1 ([47,97]:List UInt8) ([]:List UInt8) 0 0 0)]:List MV))) λrA=>
 gT rA λvs=>
 gC vs λm ir=>
 gS m λx=>
 gC ir λm1 gE=>
 gI .i64 m1 λx1=>
 gN gE<|
 bd (wR) λaY=>
 gA aY λcs=>
 mc cs λiU eV mS iV Seen=>
 bd (oJ (.agg (fL iU eV mS iV Seen)) (.s x)) λda=>
 gT da λmQ=>
 gC mQ λm7 Al=>
 gA m7 λja=>
 mc ja λpz nC vS qD BL=>
 Ix Al λx2 x3=>
 bd (pC (.s ([]:List UInt8))) λrO=>
 gT rO λuu=>
 Ix uu λx4 x5=>
 bd (
 bB (decide (x1=0)) (
 bB (decide (x3=0)) (
 bO x2 λlen=>
 bB (decide ((len:Int)=1)) (
 bO pz λeG=>
 bB (decide ((eG:Int)=2)) (
 some [.b (decide (x5=3))]) (
 some [.b false])) (
 some [.b false])) (
 some [.b false])) (
 some [.b false])) λvs3=>
 gC vs3 λm17 Ql=>
 gB m17 λx6=>
 gN Ql<|
 some (.b x6)
def My:GT:=bp 40 (Sp wT) FX
theorem K5:SG My:=Gl Gu [] [] 47 [10] [] [] [] [(4,⟨[2,3,4,5,7],[],[],[(0,[(0,.sc (.k .b))])],[]⟩)] [] [] [] Tryz.func40 (by kernel_rfl) (Dg (by kernel_rfl))
def nR (x c:MV):Option MV:=gA x λcs=>
 cL cs λClient Seq Kind Path Value Version Session Span=>
 gP c λja=>
 cL ja λdN tC Qk lC fN cO Ae Af=>
 some (.b (decide (Client=dN)))
def rD:GT:=bp 91 (eE nR) My
theorem Bv:SG rD:=nd K5 [[.i .i64,.i .i64,.i .i64,.s,.s,.i .i64,.i .i64,.i .i64]] 9 [] [] [] Tryz.func91 (by kernel_rfl) (bo (λ_ _=>by kernel_rfl))
def ec:GT:=rD
theorem kX (x0 x1:MV):ec 91 [x0,x1]=nR x0 x1:=by kernel_rfl
def eQ (sA f:MV):Option MV:=gL sA λni=>
 gR f λf1=>
 bO ni λlen=>
 bd (Loop (λir=>
 gC ir λm gE=>
 gI .i64 m λx=>
 gN gE<|
 bB (decide (x<(len:Int))) (
 idx ni x λy=>
 gA y λcs=>
 cL cs λClient Seq Kind Path Value Version Session Span=>
 OT f1 λfn cap=>
 cJ (!gv fn)<|
 bd (ec fn ([.agg (bU Client Seq Kind Path Value Version Session Span)]++cap)) λrA=>
 gB rA λx1=>
 bB x1 (
 some (.inr (1,[.i .i64 x]))) (
 some (.inl [.i .i64 (bN .i64 (x+1))]))) (
 some (.inr (2,[])))) [.i .i64 0]) λp=>
 bB (AI p.1 2) (
 gN p.2<|
 some (.i .i64 (-1))) (
 cJ (AI p.1 1)<|
 gC p.2 λm9 tA=>
 gI .i64 m9 λx2=>
 gN tA<|
 some (.i .i64 x2))
def mj:GT:=bp 153 (eE eQ) rD
theorem qi:SG mj:=nd Bv [] 19 [] [] [(2,⟨[0,1,7],[],[(8,.sc (.k (.i .i64)))],[(1,[(4,.sc (.k (.i .i64)))]),(2,[])],[]⟩)] Tryz.func153 (by kernel_rfl) (bo (λ_ _=>by kernel_rfl))
def dP (sA f:MV):Option MV:=gL sA λni=>
 gR f λf1=>
 bd (eQ (.list ni) f1) λrA=>
 gI .i64 rA λx=>
 some (.b (decide ((0:Int)<=x)))
def kp:GT:=bp 90 (eE dP) mj
theorem oR:SG kp:=nd qi [] 9 [] [] [] Tryz.func90 (by kernel_rfl) (bo (λ_ _=>by kernel_rfl))
def nD (rA lA:MV):Option MV:=gA rA λcs=>
 mc cs λiU eV mS iV Seen=>
 gL lA λCh=>
 bO Ch λlen=>
 bd (Loop (λxN=>
 Ix xN λout x=>
 bB (decide (x<(len:Int))) (
 idx Ch x λy=>
 gA y λja=>
 cL ja λClient Seq Kind Path Value Version Session Span=>
 bd (qg (.agg (fL iU eV mS iV Seen)) (.i .i64 Client)) λaY=>
 gT aY λvs=>
 gC vs λm15 aaQ=>
 gA m15 λyT=>
 iD yT λdN tC E fN cO Names=>
 gC aaQ λWt wK=>
 gB Wt λx1=>
 gN wK<|
 bd (dP (.list out) (.func 91 [.rp (bU Client Seq Kind Path Value Version Session Span)])) λda=>
 gB da λx2=>
 bd (
 bB (!x2) (
 bd (mH (.agg (bU Client Seq Kind Path Value Version Session Span))) λrO=>
 gB rO λx3=>
 bB x3 (
 bB (!x1) (
 bO out λeG=>
 some [.b (decide ((eG:Int)<10))]) (
 bB (decide (tC<Seq)) (
 bO out λjJ=>
 some [.b (decide ((jJ:Int)<10))]) (
 some [.b false]))) (
 some [.b false])) (
 some [.b false])) λmQ=>
 gC mQ λWu Qn=>
 gB Wu λx4=>
 gN Qn<|
 bd (
 bB x4 (
 bO out λvM=>
 bO ([.agg (bU Client Seq Kind Path Value Version Session Span)]:List MV) λCk=>
 cJ (decide ((vM+Ck) *80<=2^46))<|
 some (0,[.list (out++([.agg (bU Client Seq Kind Path Value Version Session Span)]:List MV))])) (
 some (0,[.list out]))) λp1=>
 cJ (AI p1.1 0)<|
 gC p1.2 λm24 ID=>
 gL m24 λDs=>
 gN ID<|
 some (.inl [.list Ds,.i .i64 (bN .i64 (x+1))])) (
 some (.inr (2,[.list out])))) [.list ([]:List MV),.i .i64 0]) λp=>
 cJ (AI p.1 2)<|
 gC p.2 λm25 Qo=>
 gL m25 λahI=>
 gN Qo<|
 some (.list ahI)
def BN:GT:=bp 45 (eE nD) kp
theorem Dy:SG BN:=Gl oR [] [] 55 [51] [] [] [] [(7,⟨[2,5,7,8,9,10,11,12,13],[52],[],[(0,[(48,.sc (.k .b))])],[52]⟩)] [(8,⟨[2,7,11,12,13],[],[],[(0,[(5,.sc (.own 52 35 true))])],[52]⟩)] [(3,⟨[2,11,12],[],[(5,.sc (.own 52 35 true)),(13,.sc (.k (.i .i64)))],[(2,[(5,.sc (.own 52 35 true))])],[52]⟩)] [] Tryz.func45 (by kernel_rfl) (bo (λ_ _=>by kernel_rfl))
def vT (a a1:MV):Option MV:=gL a λa2=>
 gL a1 λsb=>
 bd (
 bd (wS (.list a2)) λrA=>
 gB rA λx=>
 bB (!x) (
 some [.b true]) (
 bd (wS (.list sb)) λaY=>
 gB aY λx1=>
 some [.b (!x1)])) λvs=>
 gC vs λm ir=>
 gB m λx2=>
 gN ir<|
 bB x2 (
 bd (wT) λda=>
 gB da λx3=>
 some (.b x3)) (
 bd (wR) λrO=>
 gA rO λcs=>
 mc cs λiU eV mS iV Seen=>
 bd (ud (.agg (fL iU eV mS iV Seen)) (.list a2)) λFL=>
 gT FL λmQ=>
 gC mQ λm6 ED=>
 gA m6 λja=>
 mc ja λpz nC vS qD BL=>
 gC ED λm12 IQ=>
 gL m12 λx4=>
 gC IQ λWg Dm=>
 gL Wg λx5=>
 gN Dm<|
 bd (nD (.agg (fL pz nC vS qD BL)) (.list sb)) λxH=>
 gL xH λx6=>
 bd (
 bO x6 λlen=>
 bB (decide ((10:Int)<(len:Int))) (
 some [.b true]) (
 bO x6 λeG=>
 bO sb λjJ=>
 some [.b (decide ((jJ:Int)<(eG:Int)))])) λuu=>
 gC uu λm14 I3=>
 gB m14 λx7=>
 gN I3<|
 bB x7 (
 some (.b false)) (
 bd (Loop (λaaL=>
 gC aaL λm15 aaQ=>
 gI .i64 m15 λx8=>
 gN aaQ<|
 bO x6 λvM=>
 bB (decide (x8<(vM:Int))) (
 bd (Loop (λQl=>
 gC Ql λm16 aaO=>
 gI .i64 m16 λx9=>
 gN aaO<|
 bB (decide (x9<x8)) (
 idx x6 x9 λy=>
 gA y λyT=>
 cL yT λClient Seq Kind Path Value Version Session Span=>
 idx x6 x8 λy1=>
 gA y1 λur=>
 cL ur λdN tC Qk lC fN cO Ae Af=>
 bB (decide (Client=dN)) (
 some (.inr (1,[.b false]))) (
 some (.inl [.i .i64 (bN .i64 (x9+1))]))) (
 some (.inr (4,[])))) [.i .i64 0]) λp1=>
 bB (AI p1.1 4) (
 gN p1.2<|
 idx x6 x8 λy2=>
 gA y2 λcs4=>
 cL cs4 λUI apF arM alH aaH IU alM arN=>
 bd (qg (.agg (fL pz nC vS qD BL)) (.i .i64 UI)) λGj=>
 gT Gj λvs3=>
 gC vs3 λm41 IE=>
 gA m41 λcs5=>
 iD cs5 λanb apH E aaI aaJ Names=>
 gC IE λm48 alN=>
 gB m48 λGk=>
 gN alN<|
 bd (
 bB Gk (
 idx x6 x8 λy3=>
 gA y3 λcs6=>
 cL cs6 λanc apI arO afR apJ alO alP arP=>
 bB (decide (apI<=apH)) (
 some [.b true]) (
 idx x6 x8 λy4=>
 gA y4 λcs7=>
 cL cs7 λaeg apK alQ alR ahK aaR aaS alS=>
 bd (mH (.agg (bU aeg apK alQ alR ahK aaR aaS alS))) λrA7=>
 gB rA7 λIr=>
 some [.b (!Ir)])) (
 idx x6 x8 λy5=>
 gA y5 λcs8=>
 cL cs8 λaeh apL alT alU ahL aaT aaU alV=>
 bd (mH (.agg (bU aeh apL alT alU ahL aaT aaU alV))) λrA8=>
 gB rA8 λIs=>
 some [.b (!Is)])) λvs4=>
 gC vs4 λm73 alW=>
 gB m73 λIt=>
 gN alW<|
 bB It (
 some (.inr (1,[.b false]))) (
 some (.inl [.i .i64 (bN .i64 (x8+1))]))) (
 cJ (AI p1.1 1)<|
 gC p1.2 λm74 alX=>
 gB m74 λIu=>
 gN alX<|
 some (.inr (1,[.b Iu])))) (
 some (.inr (2,[])))) [.i .i64 0]) λp=>
 bB (AI p.1 2) (
 gN p.2<|
 bd (pA (.list x6)) λrA9=>
 gT rA9 λvs5=>
 gC vs5 λm75 alY=>
 gS m75 λGW=>
 gC alY λm76 alZ=>
 gI .i64 m76 λIv=>
 gN alZ<|
 bd (oJ (.agg (fL pz nC vS qD BL)) (.s GW)) λxJ=>
 gT xJ λvs6=>
 gC vs6 λm77 al0=>
 gA m77 λcs9=>
 mc cs9 λOh JC Su Oi UJ=>
 Ix al0 λFM Iw=>
 bd (oJ (.agg (fL Oh JC Su Oi UJ)) (.s GW)) λQh=>
 gT Qh λvs7=>
 gC vs7 λm85 al1=>
 gA m85 λapM=>
 mc apM λaei aaV ahM aej al2=>
 Ix al1 λKq Rc=>
 bd (
 bB (!decide (Iv=0)) (
 some [.b true]) (
 bB (!decide (Iw=0)) (
 some [.b true]) (
 bB (!decide (Rc=0)) (
 some [.b true]) (
 bO FM λCk=>
 bO x6 λaaK=>
 bB (!decide ((Ck:Int)=(aaK:Int))) (
 some [.b true]) (
 bd (yf (.agg (fL Oh JC Su Oi UJ)) (.agg (fL aei aaV ahM aej al2))) λadU=>
 gB adU λUG=>
 some [.b (!UG)]))))) λvs8=>
 gC vs8 λm93 al3=>
 gB m93 λx22=>
 gN al3<|
 bB x22 (
 some (.b false)) (
 bd (Loop (λal4=>
 gC al4 λm94 al5=>
 gI .i64 m94 λUH=>
 gN al5<|
 bO FM λQs=>
 bB (decide (UH<(Qs:Int))) (
 bd (
 idx FM UH λy6=>
 gA y6 λapN=>
 iD apN λaek auR E1 apO al6 Ce=>
 idx x6 UH λy7=>
 gA y7 λapP=>
 cL apP λael auS arQ arR apQ al7 al8 arS=>
 bB (!decide (aek=ael)) (
 some [.b true]) (
 idx FM UH λy8=>
 gA y8 λapR=>
 iD apR λane apS E2 apT al9 apU=>
 idx x6 UH λy9=>
 gA y9 λapV=>
 cL apV λama amb arT arU anf aiR amc arV=>
 some [.b (!decide (apS=amb))])) λvs9=>
 gC vs9 λapW ahN=>
 gB apW λx24=>
 gN ahN<|
 bB x24 (
 some (.inr (1,[.b false]))) (
 some (.inl [.i .i64 (bN .i64 (UH+1))]))) (
 some (.inr (6,[])))) [.i .i64 0]) λp6=>
 bB (AI p6.1 6) (
 gN p6.2<|
 bd (
 bd (wT) λadV=>
 gB adV λx25=>
 bB x25 (
 bO UJ λapX=>
 bB (decide ((50:Int)<=(apX:Int))) (
 some [.b true]) (
 bd (nD (.agg (fL Oh JC Su Oi UJ)) (.list x6)) λadW=>
 gL adW λx26=>
 bO x26 λQt=>
 some [.b (decide ((Qt:Int)=0))])) (
 some [.b false])) λapY=>
 gC apY λapZ ahO=>
 gB apZ λx27=>
 gN ahO<|
 some (.b x27)) (
 cJ (AI p6.1 1)<|
 gC p6.2 λap0 ahP=>
 gB ap0 λx28=>
 gN ahP<|
 some (.b x28)))) (
 cJ (AI p.1 1)<|
 gC p.2 λap1 ahQ=>
 gB ap1 λx29=>
 gN ahQ<|
 some (.b x29))))
def K6:GT:=bp 10 (eE vT) BN
theorem Dz:SG K6:=Gl Dy [] [] 188 [] [] [] [(13,[0,1,2,3,4,5,6,7,8,9,10]),(15,[0,1,2,3,4,5,6,7,8,9,10,11,12]),(16,[0,1,2,3,4,5,6,7,8,9,10,11,12,13,14,15,16,17,18]),(26,[0,1,2,3,4,5,6,7,8,9,10,11,12,13,14,15,16,17,18,19,20,21,22,23])] [(28,⟨[8,15],[],[],[(0,[(4,.sc (.k .b))])],[]⟩),(26,⟨[8,15,16,21],[],[],[(0,[(173,.sc (.k .b))])],[]⟩),(21,⟨[8,14,15,16,17,18,20],[],[],[(0,[(143,.sc (.k .b))])],[]⟩),(16,⟨[5,8,9,11,12],[],[],[(0,[(101,.sc (.k .b))])],[]⟩),(5,⟨[1,5,8],[],[],[(0,[(50,.sc (.k .b))])],[]⟩),(1,⟨[0,1],[],[],[(0,[(29,.sc (.k .b))])],[]⟩)] [] [(24,⟨[8,15,16],[],[(21,.sc (.k (.i .i64)))],[(1,[(4,.sc (.k .b))]),(6,[])],[]⟩),(11,⟨[5,8,9],[],[(10,.sc (.k (.i .i64)))],[(1,[(4,.sc (.k .b))]),(4,[])],[]⟩),(8,⟨[5,8],[],[(9,.sc (.k (.i .i64)))],[(1,[(4,.sc (.k .b))]),(2,[])],[]⟩)] [] Tryz.func10 (by kernel_rfl) (bo (λ_ _=>by kernel_rfl))
end
end Dn.S
